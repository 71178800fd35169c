/- Package mail: a box that was made: made, may, New, Len, All. -/
import Derived.Test.YtjefnhlpidjndaaEvGood2
import Derived.Test.YtjefnhlpidjndaaEvConcat
import Derived.Test.YtjefnhlpidjndaaBatch
namespace Go.Proofs.Ytjefnhlpidjndaa
open Go.RowKit
/-- A box: its row is the call's own. -/
structure Mb (w : World) (b base : Nat) (room : Int) (l : List Ev) (v : Value) : Prop where
  row : Box w b 0 v
  rm : Box w b 1 (.int .i64 room)
  own : w.ownsRow base 31 15 v l.length (evs l)
  apart : v.ownBlock ≠ some b
theorem Mb.below {w w1 : World} {b base : Nat} {room : Int} {l : List Ev} {v : Value} (h : Mb w b base room l v) (hb : Below w.heap.size w w1) : Mb w1 b base room l v :=
  ⟨h.row.below hb, h.rm.below hb, own_below h.own hb, h.apart⟩
theorem Mb.keep {S : Nat → Prop} {w w1 : World} {b base : Nat} {room : Int} {l : List Ev} {v : Value} (h : Mb w b base room l v) (hc : Chg S w w1) (hb : ¬ S b) (hv : ∀ k, v.ownBlock = some k → ¬ S k) : Mb w1 b base room l v :=
  ⟨h.row.keep hc hb, h.rm.keep hc hb, hc.own h.own hv, h.apart⟩
def wrongB (e : Ev) : Bool := !goodB e || !upB e.kind
def mayE (room : Int) (n : Nat) (l : List Ev) : Int := if l.any wrongB then 2 else if room - n < l.length then 3 else 0
set_option maxHeartbeats 1000000 in
theorem mmade (b : Nat) (room : Int) (w : World) (h : w.cell? ⟨b, 1, none⟩ = some (.int .i64 room)) (hp : 0 < room) : Calls Try.prog 18 #[.pointer (some ⟨b, 0, none⟩)] w fun e w' => e = .returned (.bool true) ∧ w = w' := by
  go_enter Try.func18, Try.ntmps18
  go_wp2
  go_ret
  exact ⟨rfl, rfl⟩
set_option maxRecDepth 100000 in
set_option maxHeartbeats 4000000 in
theorem mwrong (e : Ev) (w : World) : Calls Try.prog 25 #[evV e] w fun x w' => x = .returned (.bool (wrongB e)) ∧ Below w.heap.size w w' := by
  have HE := Lib.hid (ev_new e w 31)
  have HG := Lib.hid (fun W => egood e W)
  have HU := Lib.hid (fun W => eup e.kind W)
  have HAL : Hid (Below w.heap.size w (w.alloc (.cells (evC e).toArray 31))) := below_al (Below.refl _ _) _
  unfold wrongB
  generalize goodB e = g at HG ⊢
  generalize upB e.kind = u at HU ⊢
  obtain ⟨e0, e1, e2, e3, e4, e5, e6, e7, e8, e9, e10, e11, e12, e13, e14⟩ := e
  unfold evC at HE HAL
  unfold evV at HG ⊢
  simp only at HE HAL HG HU ⊢
  cases g <;> cases u
  all_goals
    go_enter Try.func25, Try.ntmps25
    go_wp2_with (first
      | (go_at_call 26; (with_reducible refine (HG.out _).mono ?_); rintro x w1 ⟨rfl, hb1⟩; have hk := (HE.out.below hb1).c0; simp only at hk)
      | (go_at_call 27; (with_reducible refine (HU.out _).mono ?_); rintro x w2 ⟨rfl, rfl⟩))
    go_ret
    exact ⟨rfl, below_then HAL.out HAL.out.size hb1⟩
theorem containsEv (g : Nat) (lb : Array Value) (eg : ∀ args w, (callFunc g args).run Try.prog w = .ok (.enter g args) w) (p : Ev → Bool) (A : Option Addr) (n c : Nat) (xs : List Ev) (w : World) (hr : Rds w 15 A n c (evs xs))
    (hp : ∀ x ∈ xs, ∀ W, Below w.heap.size w W → Calls Try.prog g (#[evV x] ++ lb) W fun e w' => e = .returned (.bool (p x)) ∧ Below W.heap.size W w') :
    Calls Try.prog 28 #[.slice A n c, .func (.func g) #[] lb] w fun e w' => e = .returned (.bool (xs.any p)) ∧ Below w.heap.size w w' := by
  have HI := Lib.hid (indexEv g lb eg p A n c xs w hr hp)
  have HA := Lib.hid (idxP_any p xs)
  generalize idxP p xs = q at HI HA
  generalize xs.any p = b at HA
  clear hp hr eg
  go_enter Try.func28, Try.ntmps28
  go_wp2_with ((with_reducible refine HI.out.mono ?_); rintro e w' ⟨rfl, hb⟩)
  go_ret
  exact ⟨ret_bool HA.out, hb⟩
set_option maxRecDepth 100000 in
set_option maxHeartbeats 8000000 in
theorem mmay (b base : Nat) (room : Int) (l : List Ev) (v : Value) (A : Option Addr) (n c : Nat) (xs : List Ev) (w : World) (h : Mb w b base room l v) (hp : 0 < room) (hp2 : room ≤ 1024) (hl : l.length ≤ 100000) (hr : Rds w 15 A n c (evs xs)) :
    Calls Try.prog 17 #[.pointer (some ⟨b, 0, none⟩), .slice A n c] w fun e w' => e = .returned (.int .i64 (mayE room l.length xs)) ∧ Below w.heap.size w w' := by
  obtain ⟨A0, c0, rfl⟩ := own_slice h.own
  have HMD := Lib.hid (mmade b room w h.rm.cell hp)
  have HC := Lib.hid (containsEv 25 #[] (fun _ _ => rfl) wrongB A n c xs w hr (fun x _ W _ => mwrong x W))
  have HN : Hid (xs.length = n) := evs_len hr
  have HQ : Hid (mayE room l.length xs = if xs.any wrongB then 2 else if room - (l.length : Int) < n then 3 else 0) := by show _ = _; unfold mayE; rw [HN.out]
  generalize mayE room l.length xs = r at HQ ⊢
  generalize xs.any wrongB = q at HC HQ
  have HR := Lib.hid h.row
  have HM := Lib.hid h.rm
  have hnx := hr.max
  have hncc := hr.le
  unfold maxLen at hnx
  have HW : Hid (IntKind.i64.wrap (room - (l.length : Int)) = room - (l.length : Int)) := by show _ = _; rw [IntKind.wrap_i64]; omega
  clear h hr
  cases q
  · have hq2 := HQ.out
    simp only [Bool.false_eq_true, if_false] at hq2
    have HQ2 := Lib.hid hq2
    clear hq2 HQ hnx hncc
    go_enter Try.func17, Try.ntmps17
    go_wp2_with (first
      | (go_at_call 18; (with_reducible refine HMD.out.mono ?_); rintro x w1 ⟨rfl, rfl⟩)
      | (go_at_call 28; (with_reducible refine HC.out.mono ?_); rintro x w2 ⟨rfl, hb2⟩))
    have HR2 := Lib.hid (HR.out.below hb2)
    have HM2 := Lib.hid (HM.out.below hb2)
    obtain ⟨T, hT⟩ : ∃ T : Nat → Fact, ∀ t_, T t_ = ([Fact.eq (.slice A n c), Fact.eq (.int .i64 n), Fact.eq (.pointer (some ⟨b, 0, none⟩)), Fact.eq (.pointer (some ⟨b, 0, none⟩)), Fact.eq (.pointer (some ⟨b, 1, none⟩)), Fact.eq (.int .i64 room), Fact.eq (.pointer (some ⟨b, 0, none⟩)), Fact.eq (.pointer (some ⟨b, 0, none⟩)), Fact.eq (.pointer (some ⟨b, 0, none⟩)), Fact.eq (.pointer (some ⟨b, 0, none⟩)), Fact.eq (.slice A0 l.length c0), Fact.eq (.int .i64 l.length), Fact.eq (.int .i64 (room - (l.length : Int))), Fact.eq (.bool (decide (room - (l.length : Int) < n))), Fact.eq (.bool (decide (room - (l.length : Int) < n)))] : List (Fact)).getD t_ Fact.any := ⟨_, fun _ => rfl⟩
    refine region_tab [(0, 15), (1, 16), (2, 17), (3, 18), (4, 19), (5, 20), (6, 21), (7, 22), (8, 23), (9, 24), (10, 25), (11, 26), (12, 27), (13, 28), (14, 14)] T (by kernel_rfl) (by kernel_rfl) (by kernel_rfl) (by kernel_rfl) (by kernel_rfl) ?_ ?_
    · skip
      refine stepsAll_cons (k := 0) ?_ ?_
      · intro fa fx fW hF fB hE K fK
        have ev1 : fa.tmps[1]?.getD undef = .slice A n c := hF.eo 1 (by kernel_rfl)
        refine wpOp_val rfl (wanted_none rfl) ?_ (fK (.slice A n c) fW (Below.refl _ _) (by rw [hT]; exact rfl))
        clear fK hE hF
        go_simp
      refine stepsAll_cons (k := 1) ?_ ?_
      · intro fa fx fW hF fB hE K fK
        have q0 : fx 0 = .slice A n c := by have q := hE ⟨0, .data⟩ (by simp) rfl; rw [hT] at q; exact q
        have ev15 : fa.tmps[15]?.getD undef = .slice A n c := (hF.ev 0 15 (by kernel_rfl)).trans q0
        refine wpOp_val rfl (wanted_none rfl) ?_ (fK (.int .i64 n) fW (Below.refl _ _) (by rw [hT]; exact rfl))
        clear fK hE hF
        go_simp
      refine stepsAll_cons (k := 2) ?_ ?_
      · intro fa fx fW hF fB hE K fK
        have ev0 : fa.tmps[0]?.getD undef = .pointer (some ⟨b, 0, none⟩) := hF.eo 0 (by kernel_rfl)
        refine wpOp_val rfl (wanted_none rfl) ?_ (fK (.pointer (some ⟨b, 0, none⟩)) fW (Below.refl _ _) (by rw [hT]; exact rfl))
        clear fK hE hF
        go_simp
      refine stepsAll_cons (k := 3) ?_ ?_
      · intro fa fx fW hF fB hE K fK
        have q2 : fx 2 = .pointer (some ⟨b, 0, none⟩) := by have q := hE ⟨2, .data⟩ (by simp) rfl; rw [hT] at q; exact q
        have ev17 : fa.tmps[17]?.getD undef = .pointer (some ⟨b, 0, none⟩) := (hF.ev 2 17 (by kernel_rfl)).trans q2
        refine wpOp_val rfl (wanted_none rfl) ?_ (fK (.pointer (some ⟨b, 0, none⟩)) fW (Below.refl _ _) (by rw [hT]; exact rfl))
        clear fK hE hF
        go_simp
      refine stepsAll_cons (k := 4) ?_ ?_
      · intro fa fx fW hF fB hE K fK
        have q3 : fx 3 = .pointer (some ⟨b, 0, none⟩) := by have q := hE ⟨3, .data⟩ (by simp) rfl; rw [hT] at q; exact q
        have ev18 : fa.tmps[18]?.getD undef = .pointer (some ⟨b, 0, none⟩) := (hF.ev 3 18 (by kernel_rfl)).trans q3
        refine wpOp_val rfl (wanted_none rfl) ?_ (fK (.pointer (some ⟨b, 1, none⟩)) fW (Below.refl _ _) (by rw [hT]; exact rfl))
        clear fK hE hF
        go_simp
      refine stepsAll_cons (k := 5) ?_ ?_
      · intro fa fx fW hF fB hE K fK
        have q4 : fx 4 = .pointer (some ⟨b, 1, none⟩) := by have q := hE ⟨4, .data⟩ (by simp) rfl; rw [hT] at q; exact q
        have ev19 : fa.tmps[19]?.getD undef = .pointer (some ⟨b, 1, none⟩) := (hF.ev 4 19 (by kernel_rfl)).trans q4
        have y0 := (HM2.out.below fB).cell
        refine wpOp_val rfl (wanted_none rfl) ?_ (fK (.int .i64 room) fW (Below.refl _ _) (by rw [hT]; exact rfl))
        clear fK hE hF
        go_simp
      refine stepsAll_cons (k := 6) ?_ ?_
      · intro fa fx fW hF fB hE K fK
        have ev0 : fa.tmps[0]?.getD undef = .pointer (some ⟨b, 0, none⟩) := hF.eo 0 (by kernel_rfl)
        refine wpOp_val rfl (wanted_none rfl) ?_ (fK (.pointer (some ⟨b, 0, none⟩)) fW (Below.refl _ _) (by rw [hT]; exact rfl))
        clear fK hE hF
        go_simp
      refine stepsAll_cons (k := 7) ?_ ?_
      · intro fa fx fW hF fB hE K fK
        have q6 : fx 6 = .pointer (some ⟨b, 0, none⟩) := by have q := hE ⟨6, .data⟩ (by simp) rfl; rw [hT] at q; exact q
        have ev21 : fa.tmps[21]?.getD undef = .pointer (some ⟨b, 0, none⟩) := (hF.ev 6 21 (by kernel_rfl)).trans q6
        refine wpOp_val rfl (wanted_none rfl) ?_ (fK (.pointer (some ⟨b, 0, none⟩)) fW (Below.refl _ _) (by rw [hT]; exact rfl))
        clear fK hE hF
        go_simp
      refine stepsAll_cons (k := 8) ?_ ?_
      · intro fa fx fW hF fB hE K fK
        have q7 : fx 7 = .pointer (some ⟨b, 0, none⟩) := by have q := hE ⟨7, .data⟩ (by simp) rfl; rw [hT] at q; exact q
        have ev22 : fa.tmps[22]?.getD undef = .pointer (some ⟨b, 0, none⟩) := (hF.ev 7 22 (by kernel_rfl)).trans q7
        refine wpOp_val rfl (wanted_none rfl) ?_ (fK (.pointer (some ⟨b, 0, none⟩)) fW (Below.refl _ _) (by rw [hT]; exact rfl))
        clear fK hE hF
        go_simp
      refine stepsAll_cons (k := 9) ?_ ?_
      · intro fa fx fW hF fB hE K fK
        have q8 : fx 8 = .pointer (some ⟨b, 0, none⟩) := by have q := hE ⟨8, .data⟩ (by simp) rfl; rw [hT] at q; exact q
        have ev23 : fa.tmps[23]?.getD undef = .pointer (some ⟨b, 0, none⟩) := (hF.ev 8 23 (by kernel_rfl)).trans q8
        refine wpOp_val rfl (wanted_none rfl) ?_ (fK (.pointer (some ⟨b, 0, none⟩)) fW (Below.refl _ _) (by rw [hT]; exact rfl))
        clear fK hE hF
        go_simp
      refine stepsAll_cons (k := 10) ?_ ?_
      · intro fa fx fW hF fB hE K fK
        have q9 : fx 9 = .pointer (some ⟨b, 0, none⟩) := by have q := hE ⟨9, .data⟩ (by simp) rfl; rw [hT] at q; exact q
        have ev24 : fa.tmps[24]?.getD undef = .pointer (some ⟨b, 0, none⟩) := (hF.ev 9 24 (by kernel_rfl)).trans q9
        have y0 := (HR2.out.below fB).cell
        refine wpOp_val rfl (wanted_none rfl) ?_ (fK (.slice A0 l.length c0) fW (Below.refl _ _) (by rw [hT]; exact rfl))
        clear fK hE hF
        go_simp
      refine stepsAll_cons (k := 11) ?_ ?_
      · intro fa fx fW hF fB hE K fK
        have q10 : fx 10 = .slice A0 l.length c0 := by have q := hE ⟨10, .data⟩ (by simp) rfl; rw [hT] at q; exact q
        have ev25 : fa.tmps[25]?.getD undef = .slice A0 l.length c0 := (hF.ev 10 25 (by kernel_rfl)).trans q10
        refine wpOp_val rfl (wanted_none rfl) ?_ (fK (.int .i64 l.length) fW (Below.refl _ _) (by rw [hT]; exact rfl))
        clear fK hE hF
        go_simp
      refine stepsAll_cons (k := 12) ?_ ?_
      · intro fa fx fW hF fB hE K fK
        have q5 : fx 5 = .int .i64 room := by have q := hE ⟨5, .data⟩ (by simp) rfl; rw [hT] at q; exact q
        have q11 : fx 11 = .int .i64 l.length := by have q := hE ⟨11, .data⟩ (by simp) rfl; rw [hT] at q; exact q
        have ev20 : fa.tmps[20]?.getD undef = .int .i64 room := (hF.ev 5 20 (by kernel_rfl)).trans q5
        have ev26 : fa.tmps[26]?.getD undef = .int .i64 l.length := (hF.ev 11 26 (by kernel_rfl)).trans q11
        refine wpOp_val rfl (wanted_none rfl) ?_ (fK (.int .i64 (room - (l.length : Int))) fW (Below.refl _ _) (by rw [hT]; exact rfl))
        clear fK hE hF
        go_simp
        exact HW.out
      refine stepsAll_cons (k := 13) ?_ ?_
      · intro fa fx fW hF fB hE K fK
        have q1 : fx 1 = .int .i64 n := by have q := hE ⟨1, .data⟩ (by simp) rfl; rw [hT] at q; exact q
        have q12 : fx 12 = .int .i64 (room - (l.length : Int)) := by have q := hE ⟨12, .data⟩ (by simp) rfl; rw [hT] at q; exact q
        have ev16 : fa.tmps[16]?.getD undef = .int .i64 n := (hF.ev 1 16 (by kernel_rfl)).trans q1
        have ev27 : fa.tmps[27]?.getD undef = .int .i64 (room - (l.length : Int)) := (hF.ev 12 27 (by kernel_rfl)).trans q12
        refine wpOp_val rfl (wanted_none rfl) ?_ (fK (.bool (decide (room - (l.length : Int) < n))) fW (Below.refl _ _) (by rw [hT]; exact rfl))
        clear fK hE hF
        go_simp
      refine stepsAll_cons (k := 14) ?_ ?_
      · intro fa fx fW hF fB hE K fK
        have q13 : fx 13 = .bool (decide (room - (l.length : Int) < n)) := by have q := hE ⟨13, .data⟩ (by simp) rfl; rw [hT] at q; exact q
        have ev28 : fa.tmps[28]?.getD undef = .bool (decide (room - (l.length : Int) < n)) := (hF.ev 13 28 (by kernel_rfl)).trans q13
        refine wpOp_val rfl (wanted_none rfl) ?_ (fK (.bool (decide (room - (l.length : Int) < n))) fW (Below.refl _ _) (by rw [hT]; exact rfl))
        clear fK hE hF
        go_simp
      exact stepsAll_nil
    intro fa fx fW hF fB hx
    have q14 : fx 14 = .bool (decide (room - (l.length : Int) < n)) := by have q := hx 14 (by decide); rw [hT] at q; exact q
    have ev14 : fa.tmps[14]?.getD undef = .bool (decide (room - (l.length : Int) < n)) := (hF.ev 14 14 (by kernel_rfl)).trans q14
    rw [hF.eq]
    clear hF hx
    simp only [putAll, Act.put, List.setIfInBounds_toArray, List.set_cons_zero, List.set_cons_succ, q14]
    have hb3 := below_tr hb2 fB
    by_cases hx : room - (l.length : Int) < n
    · have hx2 : decide (room - (l.length : Int) < n) = true := decide_eq_true hx
      have hq3 := HQ2.out
      rw [if_pos hx] at hq3
      rw [hx2]
      clear hx hx2
      go_wp2
      go_ret
      rw [hq3]
      exact ⟨rfl, hb3⟩
    · have hx2 : decide (room - (l.length : Int) < n) = false := decide_eq_false hx
      have hq3 := HQ2.out
      rw [if_neg hx] at hq3
      rw [hx2]
      clear hx hx2
      go_wp2
      go_ret
      rw [hq3]
      exact ⟨rfl, hb3⟩
  · have hq2 := HQ.out
    simp only [if_true] at hq2
    subst hq2
    clear HQ hnx hncc
    go_enter Try.func17, Try.ntmps17
    go_wp2_with (first
      | (go_at_call 18; (with_reducible refine HMD.out.mono ?_); rintro x w1 ⟨rfl, rfl⟩)
      | (go_at_call 28; (with_reducible refine HC.out.mono ?_); rintro x w2 ⟨rfl, hb2⟩))
    go_ret
    exact ⟨rfl, hb2⟩
set_option maxHeartbeats 1000000 in
theorem mnew (k : Int) (w : World) (h : 1 ≤ k) (h2 : k ≤ 1024) : Calls Try.prog 6 #[.int .i64 k] w fun e w' => e = .returned (.pointer (some ⟨w.heap.size, 0, none⟩)) ∧ Below w.heap.size w w' ∧ w.heap.size < w'.heap.size ∧ Mb w' w.heap.size w.heap.size k [] (.slice none 0 0) := by
  have d1 : decide (k < 1) = false := by simp; omega
  go_enter Try.func6, Try.ntmps6
  go_wp2
  go_ret
  refine ⟨rfl, below_al (Below.refl _ _) _, by simp, ⟨by constructor <;> go_simp, by constructor <;> go_simp, ⟨rfl, .inl ⟨rfl, rfl⟩⟩, by simp [Value.ownBlock]⟩⟩
set_option maxHeartbeats 1000000 in
theorem mlen (b base : Nat) (room : Int) (l : List Ev) (v : Value) (w : World) (h : Mb w b base room l v) (hp : 0 < room) : Calls Try.prog 8 #[.pointer (some ⟨b, 0, none⟩)] w fun e w' => e = .returned (.int .i64 l.length) ∧ w = w' := by
  obtain ⟨A0, c0, rfl⟩ := own_slice h.own
  have HMD := Lib.hid (mmade b room w h.rm.cell hp)
  have k0 := h.row.cell
  go_enter Try.func8, Try.ntmps8
  go_wp2_with (go_at_call 18; (with_reducible refine HMD.out.mono ?_); rintro x w1 ⟨rfl, rfl⟩)
  go_ret
  exact ⟨rfl, rfl⟩
set_option maxHeartbeats 1000000 in
theorem mall (b base : Nat) (room : Int) (l : List Ev) (v : Value) (w : World) (h : Mb w b base room l v) (hp : 0 < room) (hl : l.length ≤ 100000) : Calls Try.prog 12 #[.pointer (some ⟨b, 0, none⟩)] w fun e w' => (∃ v', e = .returned v' ∧ w'.ownsRow w.heap.size 31 15 v' l.length (evs l)) ∧ Below w.heap.size w w' := by
  obtain ⟨A0, c0, hv, hr⟩ := own_rds h.own
  subst hv
  have HMD := Lib.hid (mmade b room w h.rm.cell hp)
  have k0 := h.row.cell
  have HC := Lib.hid (cloneEv A0 l.length c0 l w hr hl)
  go_enter Try.func12, Try.ntmps12
  go_wp2_with (first
    | (go_at_call 18; (with_reducible refine HMD.out.mono ?_); rintro x w1 ⟨rfl, rfl⟩)
    | (go_at_call 20; (with_reducible refine HC.out.mono ?_); rintro x w1 ⟨⟨v1, rfl, hown1⟩, hb1⟩))
  go_ret
  exact ⟨⟨v1, rfl, hown1⟩, hb1⟩
end Go.Proofs.Ytjefnhlpidjndaa
