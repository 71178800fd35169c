/- Package device: Cancel. -/
import Derived.Test.YtdfncmhbbhmgfaaDevMore
import Derived.Test.YtdfncmhbbhmgfaaIdxP
import Derived.Test.YtdfncmhbbhmgfaaDevDel
namespace Go.Proofs.Ytdfncmhbbhmgfaa
open Go.RowKit
def isSp (sp : Int) (r : Rq) : Bool := decide (r.space = sp)
set_option maxHeartbeats 2000000 in
theorem dcan1 (r : Rq) (sb : Nat) (sp : Int) (w : World) (hc : w.cell? ⟨sb, 0, none⟩ = some (.int .i64 sp)) : Calls Try.prog 30 #[rqV r, .pointer (some ⟨sb, 0, none⟩)] w fun e w' => e = .returned (.bool (isSp sp r)) ∧ Below w.heap.size w w' := by
  obtain ⟨r1, r2, r3, r4, r5⟩ := r
  unfold isSp rqV
  simp only
  have hal : Below w.heap.size w (w.alloc (.cells #[.int .i64 r1, .int .i64 r2, .int .i64 r3, .int .i64 r4, .int .i64 r5] 28)) := below_al (Below.refl _ _) _
  have hc1 := cell_below hal hc
  by_cases h : r2 = sp
  · subst h
    rw [decide_eq_true rfl]
    go_enter Try.func30, Try.ntmps30
    go_wp2
    go_ret
    exact ⟨rfl, hal⟩
  · have hz : (r2 == sp) = false := by simpa using h
    rw [decide_eq_false h]
    clear h
    go_enter Try.func30, Try.ntmps30
    go_wp2
    go_ret
    exact ⟨rfl, hal⟩
set_option maxRecDepth 100000 in
set_option maxHeartbeats 4000000 in
theorem indexRq (g : Nat) (lb : Array Value) (eg : ∀ args w, (callFunc g args).run Try.prog w = .ok (.enter g args) w) (p : Rq → Bool) (A : Option Addr) (n c : Nat) (xs : List Rq) (w : World) (hr : Rds w 5 A n c (rqs xs))
    (hp : ∀ x ∈ xs, ∀ W, Below w.heap.size w W → Calls Try.prog g (#[rqV x] ++ lb) W fun e w' => e = .returned (.bool (p x)) ∧ Below W.heap.size W w') :
    Calls Try.prog 32 #[.slice A n c, .func (.func g) #[] lb] w fun e w' => e = .returned (.int .i64 (idxP p xs)) ∧ Below w.heap.size w w' := by
  have HP := Lib.hid hp
  have HN : Hid (xs.length = n) := by show _ = _; have := hr.len; rw [rqs_length] at this; omega
  have hmax : n ≤ 9223372036854775807 := by have := hr.le; have := hr.max; unfold maxLen at this; omega
  clear hp
  go_enter Try.func32, Try.ntmps32
  go_wp2
  go_loopw [8] (fun i wr => ∃ k : Nat, k ≤ n ∧ i = .int .i64 k ∧ Hid (∀ j (hj : j < k) (hj2 : j < xs.length), p xs[j] = false) ∧ Below w.heap.size w wr) (fun i _ => n - (intOf i).toNat)
  case atStart => exact ⟨0, Nat.zero_le _, rfl, fun j hj => absurd hj (Nat.not_lt_zero _), Below.refl _ _⟩
  case round =>
    obtain ⟨k, hk, rfl, HJ, hb⟩ := hrel
    by_cases hlt : k < n
    · have hkx : k < xs.length := by rw [HN.out]; exact hlt
      obtain ⟨ad, rfl⟩ := hr.some_ (by omega)
      obtain ⟨h0, h1, h2, h3, h4⟩ := rq_read (hr.below hb) k xs[k] (List.getElem?_eq_getElem hkx)
      have hcall := HP.out xs[k] (List.getElem_mem hkx) wr hb
      unfold rqV at hcall
      generalize hy : xs[k] = y at h0 h1 h2 h3 h4 hcall
      have HY := Lib.hid hy
      clear hy
      obtain ⟨e0, e1, e2, e3, e4⟩ := y
      simp only at h0 h1 h2 h3 h4 hcall
      cases hq : p ⟨e0, e1, e2, e3, e4⟩ with
      | true =>
        rw [hq] at hcall
        have HQ := Lib.hid hq
        have HC := Lib.hid hcall
        clear hq hcall
        go_wp2_with ((with_reducible refine HC.out.mono ?_); rintro e w' ⟨rfl, hb2⟩)
        go_ret
        refine ⟨?_, below_tr hb hb2⟩
        rw [idxP_some p xs k hkx (by rw [HY.out]; exact HQ.out) (fun j hj => HJ.out j hj (by omega))]
        rfl
      | false =>
        rw [hq] at hcall
        have HQ := Lib.hid hq
        have HC := Lib.hid hcall
        clear hq hcall
        go_wp2_with ((with_reducible refine HC.out.mono ?_); rintro e w' ⟨rfl, hb2⟩)
        go_roundw
        case rel =>
          refine ⟨k + 1, by omega, by go_num, (show Hid _ from fun j hj hj2 => ?_), below_tr hb hb2⟩
          rcases Nat.lt_succ_iff_lt_or_eq.1 hj with h | rfl
          · exact HJ.out j h hj2
          · rw [HY.out]; exact HQ.out
        case measure => simp only [intOf]; omega
    · obtain rfl : k = n := by omega
      go_wp2
      go_ret
      refine ⟨?_, hb⟩
      rw [idxP_none p xs (fun x hx => by
        obtain ⟨j, hj, rfl⟩ := List.getElem_of_mem hx
        exact HJ.out j (by have := HN.out; omega) hj)]
      rfl
theorem rqs_set : ∀ (l : List Rq) (i : Nat) (r : Rq), (((((rqs l).set (i * 5) (.int .i64 r.id)).set (i * 5 + 1) (.int .i64 r.space)).set (i * 5 + 2) (.int .i64 r.thread)).set (i * 5 + 3) (.int .i64 r.kind)).set (i * 5 + 4) (.int .i64 r.size) = rqs (l.set i r)
  | [], i, r => by simp [rqs]
  | a :: l, 0, r => by simp [rqs, rqC]
  | a :: l, i + 1, r => by
    have h := rqs_set l i r
    have e : ∀ (k : Nat) (v : Value) (xs : List Value), (rqC a ++ xs).set (5 + k) v = rqC a ++ xs.set k v := by
      intro k v xs
      rw [Nat.add_comm]
      rfl
    have e1 : rqs (a :: l) = rqC a ++ rqs l := by simp [rqs]
    have e2 : rqs ((a :: l).set (i + 1) r) = rqC a ++ rqs (l.set i r) := by simp [rqs]
    rw [e1, e2, ← h, show (i + 1) * 5 = 5 + i * 5 by omega, Nat.add_assoc, Nat.add_assoc, Nat.add_assoc, Nat.add_assoc, e, e, e, e, e]
theorem canL_snoc (sp : Int) (l : List Rq) (r : Rq) : canL sp (l ++ [r]) = canL sp l ++ (if isSp sp r then [] else [r]) := by
  unfold canL isSp
  rw [List.filter_append]
  congr 1
  by_cases h : r.space = sp <;> simp [h]
theorem canL_id {sp : Int} {l : List Rq} (h : ∀ r ∈ l, isSp sp r = false) : canL sp l = l := by
  unfold canL
  rw [List.filter_eq_self]
  intro r hr
  have := h r hr
  unfold isSp at this
  simpa using this
theorem take_set_eq {l : List Rq} {a : Nat} {r : Rq} (h : a < l.length) : (l.set a r).take (a + 1) = l.take a ++ [r] := by
  rw [List.take_succ_eq_append_getElem (by simpa using h), List.take_set_of_le (Nat.le_refl _)]
  simp
theorem drop_set_eq {l : List Rq} {a b : Nat} {r : Rq} (h : a < b) : (l.set a r).drop b = l.drop b := by
  rw [List.drop_set_of_lt h]
set_option maxRecDepth 100000 in
set_option maxHeartbeats 4000000 in
theorem delf (base g cap n : Nat) (l : List Rq) (sb : Nat) (sp : Int) (w : World) (h : w.ownsRow base 28 5 (.slice (some ⟨g, 0, none⟩) n cap) n (rqs l)) (hsb : sb ≠ g) (hbx : w.cell? ⟨sb, 0, none⟩ = some (.int .i64 sp)) (hn : n ≤ cap) (hn4 : n ≤ 4096) :
    Calls Try.prog 29 #[.slice (some ⟨g, 0, none⟩) n cap, .func (.func 30) #[] #[.pointer (some ⟨sb, 0, none⟩)]] w fun e w' => ∃ m, m = (canL sp l).length ∧ e = .returned (.slice (some ⟨g, 0, none⟩) m cap) ∧
      w'.ownsRow base 28 5 (.slice (some ⟨g, 0, none⟩) m cap) m (rqs (canL sp l)) ∧ Chg (fun k => k = g) w w' := by
  have HN : Hid (l.length = n) := by show _ = _; have := h.1; rw [rqs_length] at this; omega
  obtain ⟨_, hrd⟩ := own_rds' h
  have hcb : ∀ W, Below w.heap.size w W → W.cell? ⟨sb, 0, none⟩ = some (.int .i64 sp) := fun W hW => cell_below hW hbx
  have HI := Lib.hid (indexRq 30 #[.pointer (some ⟨sb, 0, none⟩)] (fun _ _ => rfl) (isSp sp) (some ⟨g, 0, none⟩) n cap l w hrd (fun x _ W hW => dcan1 x sb sp W (hcb W hW)))
  cases hfi : l.findIdx? (isSp sp) with
  | none =>
    have hall : ∀ r ∈ l, isSp sp r = false := List.findIdx?_eq_none_iff.1 hfi
    rw [idxP_none _ _ hall] at HI
    rw [canL_id hall]
    clear hall hbx hcb hfi
    go_enter Try.func29, Try.ntmps29
    go_wp2_with ((with_reducible refine HI.out.mono ?_); rintro e w1 ⟨rfl, hb1⟩)
    go_ret
    exact ⟨n, HN.out.symm, rfl, own_below h hb1, Chg.of_below hb1⟩
  | some i0 =>
    obtain ⟨hi0, hp0, h2⟩ := List.findIdx?_eq_some_iff_getElem.1 hfi
    have hlt0 : ∀ j (hj : j < i0), isSp sp (l[j]'(by omega)) = false := fun j hj => by simpa using h2 j hj
    clear h2 hfi
    rw [idxP_some _ _ i0 hi0 hp0 hlt0] at HI
    have HT0 : Hid (l.take i0 = canL sp (l.take (i0 + 1)) ∧ l.drop (i0 + 1) = l.drop (i0 + 1)) := by
      refine ⟨?_, rfl⟩
      rw [List.take_succ_eq_append_getElem hi0, canL_snoc, hp0, if_pos rfl, List.append_nil, canL_id]
      intro r hr
      obtain ⟨j, hj, rfl⟩ := List.getElem_of_mem hr
      rw [List.length_take] at hj
      rw [List.getElem_take]
      exact hlt0 j (by omega)
    have hin : i0 < n := by rw [← HN.out]; exact hi0
    have hie : ((i0 : Int) == -1) = false := by simp
    have HM : Hid ((i0 : Int) + 1 ≤ 4096) := by show _ ≤ _; omega
    clear hp0 hlt0 hi0
    go_enter Try.func29, Try.ntmps29
    go_wp2_with ((with_reducible refine HI.out.mono ?_); rintro e w1 ⟨rfl, hb1⟩; have h1 := own_below h hb1)
    clear HI
    go_loopw [5, 6] (fun i j wr => ∃ (a b : Nat) (l' : List Rq), i = .int .i64 a ∧ j = .int .i64 b ∧ a < b ∧ b ≤ n ∧ Hid (l'.length = n) ∧ Hid (l'.take a = canL sp (l.take b) ∧ l'.drop b = l.drop b) ∧ wr.ownsRow base 28 5 (.slice (some ⟨g, 0, none⟩) n cap) n (rqs l') ∧ Chg (fun k => k = g) w wr) (fun _ j _ => n - (intOf j).toNat)
    case atStart => exact ⟨i0, i0 + 1, l, rfl, by go_num, by omega, by omega, HN, ⟨HT0.out.1, rfl⟩, h1, Chg.of_below hb1⟩
    case round =>
      obtain ⟨a, b, l', rfl, rfl, hab, hbn, HL', HT, ho, hch⟩ := hrel
      clear h1 hb1 hrd
      obtain ⟨_, hr1⟩ := own_rds' ho
      by_cases hlt : b < n
      · have hbx' : b < l'.length := by rw [HL'.out]; exact hlt
        have hbx0 : b < l.length := by rw [HN.out]; exact hlt
        have hlb : l'[b] = l[b] := by
          have h1 := HT.out.2
          have h2 : (l'.drop b)[0]? = (l.drop b)[0]? := by rw [h1]
          rw [List.getElem?_drop, List.getElem?_drop, Nat.add_zero, List.getElem?_eq_getElem hbx', List.getElem?_eq_getElem hbx0] at h2
          exact Option.some.inj h2
        have hcs := rq_cells0 hr1 b l'[b] (List.getElem?_eq_getElem hbx')
        rw [hlb] at hcs
        have HY : Hid (l.take (b + 1) = l.take b ++ [l[b]]) := List.take_succ_eq_append_getElem hbx0
        have HD : Hid (l'.drop (b + 1) = l.drop (b + 1)) := by
          show _ = _
          have h1 := HT.out.2
          rw [← List.drop_drop (i := 1) (j := b), ← List.drop_drop (i := 1) (j := b), h1]
        generalize l[b] = y at hcs HY
        obtain ⟨r1, r2, r3, r4, r5⟩ := y
        have hc0 := hcs 0 _ rfl
        have hc1 := hcs 1 _ rfl
        have hc2 := hcs 2 _ rfl
        have hc3 := hcs 3 _ rfl
        have hc4 := hcs 4 _ rfl
        simp only [Nat.zero_add, Nat.add_zero] at hc0 hc1 hc2 hc3 hc4
        have hal : Below wr.heap.size wr (wr.alloc (.cells #[.int .i64 r1, .int .i64 r2, .int .i64 r3, .int .i64 r4, .int .i64 r5] 28)) := below_al (Below.refl _ _) _
        have hcbx := (hch.cell hbx (by simpa using hsb))
        have hcall := dcan1 ⟨r1, r2, r3, r4, r5⟩ sb sp _ (cell_below hal hcbx)
        unfold rqV at hcall
        simp only at hcall
        have HAL := Lib.hid hal
        clear hal hcs hlb
        have ha64 : (a : Int) + 1 ≤ 4096 := by omega
        have hb64 : (b : Int) + 1 ≤ 4096 := by omega
        cases hq : isSp sp ⟨r1, r2, r3, r4, r5⟩ with
        | true =>
          rw [hq] at hcall
          have HC := Lib.hid hcall
          have HQ := Lib.hid hq
          clear hcall hq
          go_wp2_with ((with_reducible refine HC.out.mono ?_); rintro e w5 ⟨rfl, hb5⟩)
          go_roundw
          case rel =>
            refine ⟨a, b + 1, l', rfl, by go_num, by omega, by omega, HL', ⟨?_, HD.out⟩, own_below (own_below ho HAL.out) hb5, (hch.trans (Chg.of_below HAL.out)).trans (Chg.of_below hb5)⟩
            rw [HY.out, canL_snoc, HQ.out, if_pos rfl, List.append_nil]
            exact HT.out.1
          case measure => simp only [intOf]; omega
        | false =>
          rw [hq] at hcall
          have HC := Lib.hid hcall
          have HQ := Lib.hid hq
          clear hcall hq
          have hacap : a * 5 + 4 < cap * 5 := by omega
          have han : (a : Int) < n := by omega
          go_wp2_with ((with_reducible refine HC.out.mono ?_); rintro e w5 ⟨rfl, hb5⟩; have ho5 := own_below (own_below ho HAL.out) hb5; obtain ⟨t0, f0⟩ := own_there ho5 (a * 5) (by omega); obtain ⟨t1, f1⟩ := own_there ho5 (a * 5 + 1) (by omega); obtain ⟨t2, f2⟩ := own_there ho5 (a * 5 + 2) (by omega); obtain ⟨t3, f3⟩ := own_there ho5 (a * 5 + 3) (by omega); obtain ⟨t4, f4⟩ := own_there ho5 (a * 5 + 4) (by omega); obtain ⟨u0, t0⟩ := Option.isSome_iff_exists.1 t0; obtain ⟨u1, t1⟩ := Option.isSome_iff_exists.1 t1; obtain ⟨u2, t2⟩ := Option.isSome_iff_exists.1 t2; obtain ⟨u3, t3⟩ := Option.isSome_iff_exists.1 t3; obtain ⟨u4, t4⟩ := Option.isSome_iff_exists.1 t4; have hv := (cell_below hb5 (show (wr.alloc (.cells #[.int .i64 r1, .int .i64 r2, .int .i64 r3, .int .i64 r4, .int .i64 r5] 28)).cell? ⟨wr.heap.size, 0, none⟩ = some (.int .i64 r1) by go_simp)); have hv1 := (cell_below hb5 (show (wr.alloc (.cells #[.int .i64 r1, .int .i64 r2, .int .i64 r3, .int .i64 r4, .int .i64 r5] 28)).cell? ⟨wr.heap.size, 1, none⟩ = some (.int .i64 r2) by go_simp)); have hv2 := (cell_below hb5 (show (wr.alloc (.cells #[.int .i64 r1, .int .i64 r2, .int .i64 r3, .int .i64 r4, .int .i64 r5] 28)).cell? ⟨wr.heap.size, 2, none⟩ = some (.int .i64 r3) by go_simp)); have hv3 := (cell_below hb5 (show (wr.alloc (.cells #[.int .i64 r1, .int .i64 r2, .int .i64 r3, .int .i64 r4, .int .i64 r5] 28)).cell? ⟨wr.heap.size, 3, none⟩ = some (.int .i64 r4) by go_simp)); have hv4 := (cell_below hb5 (show (wr.alloc (.cells #[.int .i64 r1, .int .i64 r2, .int .i64 r3, .int .i64 r4, .int .i64 r5] 28)).cell? ⟨wr.heap.size, 4, none⟩ = some (.int .i64 r5) by go_simp)))
          have ho6 := own_set1 (o := a * 5 + 4) (.int .i64 r5) (own_set1 (o := a * 5 + 3) (.int .i64 r4) (own_set1 (o := a * 5 + 2) (.int .i64 r3) (own_set1 (o := a * 5 + 1) (.int .i64 r2) (own_set1 (o := a * 5) (.int .i64 r1) ho5))))
          rw [rqs_set l' a ⟨r1, r2, r3, r4, r5⟩] at ho6
          have hS : Chg (fun k => k = g) w5 (((((w5.setCell ⟨g, a * 5, none⟩ (.int .i64 r1)).setCell ⟨g, a * 5 + 1, none⟩ (.int .i64 r2)).setCell ⟨g, a * 5 + 2, none⟩ (.int .i64 r3)).setCell ⟨g, a * 5 + 3, none⟩ (.int .i64 r4)).setCell ⟨g, a * 5 + 4, none⟩ (.int .i64 r5)) :=
            (((((Chg.refl (fun k => k = g) w5).setCell g (a * 5) _ rfl).setCell g (a * 5 + 1) _ rfl).setCell g (a * 5 + 2) _ rfl).setCell g (a * 5 + 3) _ rfl).setCell g (a * 5 + 4) _ rfl
          go_roundw
          case rel =>
            refine ⟨a + 1, b + 1, l'.set a ⟨r1, r2, r3, r4, r5⟩, by go_num, by go_num, by omega, by omega, ?_, ⟨?_, ?_⟩, ho6, ((hch.trans (Chg.of_below HAL.out)).trans (Chg.of_below hb5)).trans hS⟩
            · show _ = _; rw [List.length_set]; exact HL'.out
            · rw [take_set_eq (by omega), HY.out, canL_snoc, HQ.out, if_neg (by simp), HT.out.1]
            · rw [drop_set_eq (by omega)]; exact HD.out
          case measure => simp only [intOf]; omega
      · obtain rfl : b = n := by omega
        have hm : (canL sp l).length = a := by
          have h1 := HT.out.1
          have e9 : l.take b = l := List.take_of_length_le (by rw [HN.out]; exact Nat.le_refl _)
          rw [e9] at h1
          rw [← h1, List.length_take, HL'.out]
          omega
        have hTL : rqs (l'.take a) = rqs (canL sp l) := by
          have h1 := HT.out.1
          have e9 : l.take b = l := List.take_of_length_le (by rw [HN.out]; exact Nat.le_refl _)
          rw [e9] at h1
          rw [h1]
        have ho2 := own_take ho a (by omega)
        rw [rqs_take, hTL] at ho2
        have hcl : ∃ w', (∀ ty, (Builtin.clear_ #[22] ty #[.slice (some ⟨g, a * 5, none⟩) (b - a) (cap - a)]).run Try.prog wr = .ok (.tuple #[]) w') ∧ w'.ownsRow base 28 5 (.slice (some ⟨g, 0, none⟩) a cap) a (rqs (canL sp l)) ∧ wr.grownBy w' (some g) := by
          have := fun ty => run_clear_own (P := Try.prog) (w := wr) 22 ty _ Try.underlying22 zero_rq rfl (by decide) (by intro u hu; simp [Value.cells] at hu; subst hu; rfl) ho2 a (b - a) (cap - a) (Nat.le_refl _) (by omega) (by omega)
          obtain ⟨w', r1, r2, r3⟩ := this 0
          refine ⟨w', fun ty => ?_, r2, r3⟩
          rw [← r1]
          rfl
        obtain ⟨w2, hcl, p1, p2⟩ := hcl
        have hz1 : ¬ cap = a := by omega
        have hz2 : (a : Int) ≤ b := by omega
        have hz3 : (a : Int) ≤ cap := by omega
        have HM2 := Lib.hid hm
        clear hm hTL
        go_wp2
        go_ret
        have hfin := hch.trans (Chg.of_grown p2 (fun k e => by cases e; rfl))
        rw [HM2.out]
        exact ⟨rfl, p1, hfin⟩
set_option maxRecDepth 100000 in
set_option maxHeartbeats 4000000 in
theorem delf_nil (sb : Nat) (sp : Int) (w : World) : Calls Try.prog 29 #[.slice none 0 0, .func (.func 30) #[] #[.pointer (some ⟨sb, 0, none⟩)]] w fun e w' => e = .returned (.slice none 0 0) ∧ Below w.heap.size w w' := by
  have HI := Lib.hid (indexRq 30 #[.pointer (some ⟨sb, 0, none⟩)] (fun _ _ => rfl) (isSp sp) none 0 0 [] w (Rds.none_ w 5) (fun x hx => by cases hx))
  rw [show idxP (isSp sp) ([] : List Rq) = -1 from rfl] at HI
  go_enter Try.func29, Try.ntmps29
  go_wp2_with ((with_reducible refine HI.out.mono ?_); rintro e w1 ⟨rfl, hb1⟩)
  go_ret
  exact ⟨rfl, hb1⟩
theorem delfA (base n : Nat) (v : Value) (l : List Rq) (sb : Nat) (sp : Int) (w : World) (h : w.ownsRow base 28 5 v n (rqs l)) (hsb : v.ownBlock ≠ some sb) (hbx : w.cell? ⟨sb, 0, none⟩ = some (.int .i64 sp)) (hn4 : n ≤ 4096) :
    Calls Try.prog 29 #[v, .func (.func 30) #[] #[.pointer (some ⟨sb, 0, none⟩)]] w fun e w' => ∃ A m c, e = .returned (.slice A m c) ∧ m = (canL sp l).length ∧
      w'.ownsRow base 28 5 (.slice A m c) m (rqs (canL sp l)) ∧ Chg (fun k => v.ownBlock = some k) w w' := by
  rcases h.2 with ⟨rfl, h2⟩ | ⟨g, cap, cur, rfl, hb, hg, hnc, hcm, hcs, ht⟩
  · have hl : l = [] := by
      have := h.1
      rw [rqs_length] at this
      exact List.eq_nil_of_length_eq_zero (by omega)
    subst hl
    refine (delf_nil sb sp w).mono ?_
    rintro e w' ⟨rfl, hb⟩
    exact ⟨none, 0, 0, rfl, rfl, World.ownsRow_nil _ _ _ _, Chg.of_below hb⟩
  · refine (delf base g cap n l sb sp w h (fun e => hsb (by rw [e]; rfl)) hbx hnc hn4).mono ?_
    rintro e w' ⟨m, hm, rfl, h1, h2⟩
    exact ⟨_, m, _, rfl, hm, h1, h2.mono (fun k _ e => by rw [e]; rfl)⟩
set_option maxRecDepth 100000 in
set_option maxHeartbeats 4000000 in
theorem dcancel (b base : Nat) (room : Int) (l : List Rq) (last done : Int) (v : Value) (sp : Int) (w : World) (h : Dev w b base room l last done v) (hbase : base ≤ w.heap.size) (hr : 0 < room) (hm : l.length ≤ 4096) :
    Calls Try.prog 20 #[.pointer (some ⟨b, 0, none⟩), .int .i64 sp] w fun e w' => e = .returned (.int .i64 ((l.length : Int) - (canL sp l).length)) ∧ Chg (fun k => k = b) w w' ∧
      ∃ v', Dev w' b base room (canL sp l) last done v' ∧ (∀ k, v'.ownBlock = some k → w.heap.size ≤ k) := by
  have hal : Below w.heap.size w (w.alloc (.cells #[.int .i64 sp] 3)) := below_al (Below.refl _ _) _
  have HM := Lib.hid (dmade b room _ (h.room_.below hal).cell)
  rw [decide_eq_true hr] at HM
  obtain ⟨A, n, c, rfl, hn, hrd⟩ := own_open h.own
  have hbl := h.room_.lt
  have hx1 := (h.row.below hal).cell
  have hsp : (w.alloc (.cells #[.int .i64 sp] 3)).cell? ⟨w.heap.size, 0, none⟩ = some (.int .i64 sp) := by go_simp
  have hnm : n ≤ 4096 := by rw [hn.out]; exact hm
  have HN : Hid (l.length = n) := hn.out.symm
  have HC := Lib.hid (cloneRq A n c l _ (hrd.below hal) (by omega))
  have HAL := Lib.hid hal
  have hcl := canL_le sp l
  rw [HN.out] at hcl
  clear hm hn hal hrd
  go_enter Try.func20, Try.ntmps20
  go_wp2_with (first
    | (go_at_call 21; refine HM.out.mono ?_; rintro e w1 ⟨rfl, rfl⟩)
    | (go_at_call 24; (with_reducible refine HC.out.mono ?_); rintro e w2 ⟨⟨v2, rfl, ho2⟩, hb2⟩; have hsp2 := cell_below hb2 hsp; have hs2 := hb2.size; have hv2 : ∀ k, v2.ownBlock = some k → w.heap.size + 1 ≤ k := (fun k e => by have := own_base ho2 k e; simpa using this); have HD := Lib.hid (delfA _ n v2 l w.heap.size sp w2 ho2 (fun e => by have := hv2 _ e; omega) hsp2 hnm); clear hsp hsp2)
    | (go_at_call 29; (with_reducible refine HD.out.mono ?_); rintro e w3 ⟨A3, m3, c3, rfl, hm3, ho3, hc3⟩; have hB2 := below_tr HAL.out hb2; have y1 := (h.row.below hB2).keep hc3 (fun e => by have := hv2 _ e; omega); have y1c := y1.cell; have y1f := y1.free; rw [← hm3] at hcl; have HM3 := Lib.hid hm3; clear hm3))
  have x0 := (h.room_.below hB2).keep hc3 (fun e => by have := hv2 _ e; omega)
  have x2 := (h.last_.below hB2).keep hc3 (fun e => by have := hv2 _ e; omega)
  have x3 := (h.done_.below hB2).keep hc3 (fun e => by have := hv2 _ e; omega)
  have c0 := x0.cell
  have c2 := x2.cell
  have x3c := x3.cell
  have f0 := x0.free
  have f2 := x2.free
  have f3 := x3.free
  have hch : Chg (fun k => k = b) w (w3.setCell ⟨b, 1, none⟩ (.slice A3 m3 c3)) := ((Chg.of_below hB2).then_ hc3 (fun k hk e => by have := hv2 k e; omega)).setCell b 1 _ rfl
  have hch2 : Chg (fun k => k = b) w3 (w3.setCell ⟨b, 1, none⟩ (.slice A3 m3 c3)) := (Chg.refl _ _).setCell b 1 _ rfl
  have hap : ∀ k, (Value.slice A3 m3 c3).ownBlock = some k → w.heap.size + 1 ≤ k := fun k e => by have := own_base ho3 k e; simpa using this
  have z0 : Box (w3.setCell ⟨b, 1, none⟩ (.slice A3 m3 c3)) b 0 (.int .i64 room) := by constructor <;> go_simp
  have z2 : Box (w3.setCell ⟨b, 1, none⟩ (.slice A3 m3 c3)) b 2 (.int .i64 last) := by constructor <;> go_simp
  have z3 : Box (w3.setCell ⟨b, 1, none⟩ (.slice A3 m3 c3)) b 3 (.int .i64 done) := by constructor <;> go_simp
  have ho4 := own_mono (hch2.own ho3 (fun k hk e => by have := hap k hk; omega)) (base' := base) (by simp; omega)
  go_ret
  refine ⟨ret_int ?_, hch, .slice A3 m3 c3, ⟨z0, y1.set _, z2, z3, ?_, fun e => by have := hap _ e; omega⟩, fun k e => by have := hap k e; omega⟩
  · rw [HN.out, ← HM3.out]
  · rw [← HM3.out]; exact ho4
end Go.Proofs.Ytdfncmhbbhmgfaa
