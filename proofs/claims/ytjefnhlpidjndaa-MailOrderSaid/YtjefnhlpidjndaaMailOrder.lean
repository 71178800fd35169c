/- The law MailOrder, walked. -/
import Derived.Test.YtjefnhlpidjndaaMailLives
namespace Go.Proofs.Ytjefnhlpidjndaa
open Go.RowKit
theorem order_lives1 (A : Option Addr) (n c : Nat) (D : Option Addr) (m d : Nat) (w : World) (h : 40 < n) :
    Calls Try.prog 3 #[.slice A n c, .slice D m d] w fun e w' => e = .returned (.bool true) ∧ Below w.heap.size w w' := by
  have HL := Lib.hid (fun W => lives15 W)
  have d1 : (40 : Int) < n := by omega
  go_enter Try.func3, Try.ntmps3
  go_wp2_with (go_at_call 5; (with_reducible refine (HL.out _).mono ?_); rintro e w1 ⟨rfl, hb1⟩)
  go_ret
  exact ⟨rfl, hb1⟩
theorem order_lives2 (A : Option Addr) (n c : Nat) (D : Option Addr) (m d : Nat) (w : World) (h1 : n ≤ 40) (h : 100 < m) :
    Calls Try.prog 3 #[.slice A n c, .slice D m d] w fun e w' => e = .returned (.bool true) ∧ Below w.heap.size w w' := by
  have HL := Lib.hid (fun W => lives15 W)
  have d1 : decide ((40 : Int) < n) = false := by simp; omega
  have d2 : decide ((100 : Int) < m) = true := by simp; omega
  clear h1 h
  go_enter Try.func3, Try.ntmps3
  go_wp2_with (go_at_call 5; (with_reducible refine (HL.out _).mono ?_); rintro e w1 ⟨rfl, hb1⟩)
  go_ret
  exact ⟨rfl, hb1⟩
/-- The box, and a row of the law's own, apart from it. -/
structure BR (w0 W : World) (b : Nat) (bl : List Ev) (v : Value) (rl : List Ev) (u : Value) : Prop where
  below : Below w0.heap.size w0 W
  box : Mb W b w0.heap.size 20 bl v
  row : W.ownsRow w0.heap.size 31 15 u rl.length (evs rl)
  nb : u.ownBlock ≠ some b
  ap : ∀ k, u.ownBlock = some k → v.ownBlock ≠ some k
theorem BR.more {w0 W W' : World} {b : Nat} {bl rl : List Ev} {v u : Value} (h : BR w0 W b bl v rl u) (hb : Below W.heap.size W W') : BR w0 W' b bl v rl u :=
  ⟨below_then h.below h.below.size hb, h.box.below hb, own_below h.row hb, h.nb, h.ap⟩
/-- The box acts. -/
theorem BR.act {w0 W W' : World} {b : Nat} {bl bl' rl : List Ev} {v u v' : Value} (h : BR w0 W b bl v rl u) (hb : w0.heap.size ≤ b) {S : Nat → Prop} (hc : Chg S W W') (hS : ∀ k, S k → k = b ∨ v.ownBlock = some k) (hm : Mb W' b w0.heap.size 20 bl' v') (ho : v'.ownBlock = v.ownBlock ∨ ∀ k, v'.ownBlock = some k → W.heap.size ≤ k) : BR w0 W' b bl' v' rl u := by
  refine ⟨hc.toBelow h.below h.below.size (fun k hk => ?_), hm, hc.own h.row (fun k hk e => ?_), h.nb, fun k hk => ?_⟩
  · rcases hS k hk with e | e
    · omega
    · exact (h.box.own.lt k e).1
  · rcases hS k e with e | e
    · exact h.nb (by rw [hk, e])
    · exact h.ap k hk e
  · rcases ho with ho | ho
    · rw [ho]; exact h.ap k hk
    · intro e
      have h1 := ho k e
      have h2 := (h.row.lt k hk).2
      omega
/-- The row grows. -/
theorem BR.grow {w0 W W' : World} {b : Nat} {bl rl rl' : List Ev} {v u u' : Value} (h : BR w0 W b bl v rl u) (hg : W.grownBy W' u.ownBlock) (hb : Below w0.heap.size w0 W') (ho : W'.ownsRow w0.heap.size 31 15 u' rl'.length (evs rl')) (hat : u'.ownBlock = u.ownBlock ∨ ∃ k, u'.ownBlock = some k ∧ W.heap.size ≤ k) : BR w0 W' b bl v rl' u' := by
  have hc : Chg (fun k => u.ownBlock = some k) W W' := Chg.of_grown hg (fun k e => e)
  refine ⟨hb, h.box.keep hc h.nb (fun k hk e => h.ap k e hk), ho, ?_, fun k hk => ?_⟩
  · rcases hat with e | ⟨k, e, hk⟩
    · rw [e]; exact h.nb
    · rw [e]; intro e2; cases e2; have := h.box.rm.lt; omega
  · rcases hat with e | ⟨g, e, hg⟩
    · exact h.ap k (by rw [← e]; exact hk)
    · rw [e] at hk; cases hk; intro e2; have := (h.box.own.lt _ e2).2; omega
theorem BR.rowChg {w0 W W' : World} {b : Nat} {bl rl : List Ev} {v u : Value} (h : BR w0 W b bl v rl u) {S : Nat → Prop} (hc : Chg S W W') (hS : ∀ k, S k → w0.heap.size ≤ k) (h1 : ¬ S b) (h2 : ∀ k, v.ownBlock = some k → ¬ S k) (h3 : ∀ k, u.ownBlock = some k → ¬ S k) : BR w0 W' b bl v rl u :=
  ⟨hc.toBelow h.below h.below.size hS, h.box.keep hc h1 h2, hc.own h.row h3, h.nb, h.ap⟩
theorem mayE_zero {room : Int} {n : Nat} {l : List Ev} (h : mayE room n l = 0) : l.any wrongB = false ∧ (l.length : Int) ≤ room - n := by
  unfold mayE at h
  split at h
  · exact absurd h (by decide)
  · rename_i h1
    split at h
    · exact absurd h (by decide)
    · exact ⟨by simpa using h1, by omega⟩
theorem mayE_ok {room : Int} {n : Nat} {l : List Ev} (h : l.any wrongB = false) (h2 : (l.length : Int) ≤ room - n) : mayE room n l = 0 := by
  unfold mayE
  rw [h, if_neg (by decide), if_neg (by omega)]
set_option maxRecDepth 100000 in
set_option maxHeartbeats 16000000 in
theorem order_walk (A : Option Addr) (n c : Nat) (l : List Ev) (D : Option Addr) (m d : Nat) (ms : List Int) (w : World) (hr : Rds w 15 A n c (evs l)) (hr2 : Rds w 1 D m d (nums .u8 ms)) (hms : ∀ x ∈ ms, 0 ≤ x ∧ x < 256) (hn : n ≤ 40) (hm : m ≤ 100) :
    Calls Try.prog 3 #[.slice A n c, .slice D m d] w fun e w' => e = .returned (.bool true) ∧ Below w.heap.size w w' := by
  have HL := Lib.hid (fun W => lives15 W)
  have d1 : decide ((40 : Int) < n) = false := by simp; omega
  have d2 : decide ((100 : Int) < m) = false := by simp; omega
  have HN := Lib.hid (evs_len hr)
  have HM : Hid (ms.length = m) := by have := hr2.len; rw [nums_length] at this; show _ = _; omega
  have HMS := Lib.hid hms
  have HNW := Lib.hid (mnew 20 w (by decide) (by decide))
  clear hms
  go_enter Try.func3, Try.ntmps3
  go_wp2_with (go_at_call 6; (with_reducible refine HNW.out.mono ?_); rintro e w1 ⟨rfl, hb1, hz1, hm1⟩)
  go_loopw [27, 6] (fun iv uv wr => ∃ (k : Nat) (pl : List Ev) (v : Value), k ≤ n ∧ iv = .int .i64 k ∧ BR w wr w.heap.size pl v pl uv ∧ w.heap.size < wr.heap.size ∧ Hid (pl.any wrongB = false) ∧ Hid (pl.length ≤ 20)) (fun iv _ _ => n - (intOf iv).toNat)
  case atStart => exact ⟨0, [], _, by omega, rfl, ⟨hb1, hm1, ⟨rfl, .inl ⟨rfl, rfl⟩⟩, (fun e => by cases e), (fun k e => by cases e)⟩, hz1, rfl, by show 0 ≤ 20; omega⟩
  case round =>
    obtain ⟨k, pl, v, hk, rfl, hbr, hsz, HW, HP⟩ := hrel
    by_cases hlt : k < n
    · have hkx : k < l.length := by rw [HN.out]; exact hlt
      obtain ⟨ad, rfl⟩ := hr.some_ (by omega)
      have ha := ev_read (hr.below hbr.below) k l[k] (List.getElem?_eq_getElem hkx)
      generalize hy : l[k] = y at ha
      have hal : Below wr.heap.size wr (wr.alloc (.cells (evC y).toArray 31)) := below_al (Below.refl _ _) _
      have hbr1 := hbr.more hal
      have HPT := Lib.hid (mput w.heap.size w.heap.size 20 pl v y _ hbr1.box (by decide) (by decide) (by have := HP.out; omega) hbr1.below.size)
      have HEV := Lib.hid (ev_new y wr 31)
      generalize hrE : mayE 20 pl.length [y] = r at HPT
      have HRE := Lib.hid hrE
      have HBR := Lib.hid hbr1
      have HZA : Hid ((wr.alloc (.cells (evC y).toArray 31)).heap.size = wr.heap.size + 1) := by show _ = _; simp
      have HY : Hid (evC y = evs [y]) := by show _ = _; simp [evs]
      have HY1 : Hid (∀ u ∈ evC y, u.oneCell' = true) := fun u hu => evs_one [y] u (by rw [← HY.out]; exact hu)
      have hHB : Hid (∀ k, v.ownBlock = some k → k < wr.heap.size) := fun k e => (hbr.box.own.lt k e).2
      clear hbr1 hrE hal hy hkx
      obtain ⟨e0, e1, e2, e3, e4, e5, e6, e7, e8, e9, e10, e11, e12, e13, e14⟩ := y
      obtain ⟨c0, c1, c2, c3, c4, c5, c6, c7, c8, c9, c10, c11, c12, c13, c14⟩ := ha
      simp only at c0 c1 c2 c3 c4 c5 c6 c7 c8 c9 c10 c11 c12 c13 c14
      unfold evC at HPT HEV HBR HZA HY HY1
      unfold evV at HPT
      simp only at HPT HEV HBR HZA HY HY1
      by_cases hr0 : r = 0
      · subst hr0
        rw [if_pos rfl] at HPT
        obtain ⟨hw0, hroom⟩ := mayE_zero HRE.out
        have HW0 := Lib.hid hw0
        have HROOM := Lib.hid hroom
        clear hw0 hroom
        go_wp2_with (first
          | (go_at_call 7; (with_reducible refine HPT.out.mono ?_); rintro x w2 ⟨rfl, hc2, v2, hm2, ho2⟩; have hbr2 := HBR.out.act (Nat.le_refl _) hc2 (fun k hk => hk) hm2 (ho2.imp id (fun ⟨g, hg, hg2⟩ k e => by rw [hg] at e; cases e; exact hg2)); have hev2 := HEV.out.keep hc2 (fun h => h.elim (fun e => absurd e (by show wr.heap.size ≠ w.heap.size; omega)) (fun e => absurd (hHB.out _ e) (by show ¬ wr.heap.size < wr.heap.size; omega))); obtain ⟨f0, f1, f2, f3, f4, f5, f6, f7, f8, f9, f10, f11, f12, f13, f14⟩ := hev2; simp only at f0 f1 f2 f3 f4 f5 f6 f7 f8 f9 f10 f11 f12 f13 f14)
          | (at_builtin; refine apk (w0 := w) w.heap.size (by rfl) _ _ 22 31 _ 15 120 (by rfl) Try.underlying22 info_ev rfl (by decide) (by decide) _ pl.length (evs pl) [.int .i64 e0, .int .i64 e1, .int .i64 e2, .int .i64 e3, .int .i64 e4, .int .i64 e5, .int .i64 e6, .int .i64 e7, .int .i64 e8, .int .i64 e9, .int .i64 e10, .int .i64 e11, .int .i64 e12, .int .i64 e13, .int .i64 e14] (by rfl) (by rfl) (by rfl) HY1.out hbr2.row hbr2.below hbr2.below.size (by have := HP.out; omega) ?_; intro v4 w4 h4 hb4 hg4 hat4))
        have hz2 := hc2.size
        have hz4 := hg4.size
        have hza := HZA.out
        have h5 : w4.ownsRow w.heap.size 31 15 v4 (pl ++ [(⟨e0, e1, e2, e3, e4, e5, e6, e7, e8, e9, e10, e11, e12, e13, e14⟩ : Ev)]).length (evs (pl ++ [(⟨e0, e1, e2, e3, e4, e5, e6, e7, e8, e9, e10, e11, e12, e13, e14⟩ : Ev)])) := by
          rw [List.length_append, List.length_singleton, evs_append, ← HY.out]
          exact h4
        refine ⟨⟨k + 1, pl ++ [⟨e0, e1, e2, e3, e4, e5, e6, e7, e8, e9, e10, e11, e12, e13, e14⟩], v2, by omega, by go_num, hbr2.grow hg4 hb4 h5 hat4, by omega, ?_, ?_⟩, by simp [intOf]; omega⟩
        · show _ = _
          rw [List.any_append, HW.out, HW0.out]
          rfl
        · show _ ≤ _
          have := HROOM.out
          rw [List.length_singleton] at this
          rw [List.length_append, List.length_singleton]
          omega
      · rw [if_neg hr0] at HPT
        have hr2 : (r == 0) = false := by simpa using hr0
        clear hr0
        go_wp2_with (go_at_call 7; (with_reducible refine HPT.out.mono ?_); rintro x w2 ⟨rfl, hc2, v2, hm2, ho2⟩; have hbr2 := HBR.out.act (Nat.le_refl _) hc2 (fun k hk => hk) hm2 (ho2.imp id (fun ⟨g, hg, hg2⟩ k e => by rw [hg] at e; cases e; exact hg2)))
        have hz2 := hc2.size
        have hza := HZA.out
        exact ⟨⟨k + 1, pl, v2, by omega, by go_num, hbr2, by omega, HW.out, HP.out⟩, by simp [intOf]; omega⟩
    · have hkn : k = n := by omega
      have HLN := Lib.hid (mlen w.heap.size w.heap.size 20 pl v wr hbr.box (by decide))
      obtain ⟨UA, uc, hu, hur⟩ := own_rds hbr.row
      subst hu
      have hpl : decide ((20 : Int) < pl.length) = false := by have := HP.out; simp; omega
      obtain ⟨W3, rfl⟩ : ∃ x, x = wr := ⟨_, rfl⟩
      clear hkn hur
      go_wp2_with (go_at_call 8; (with_reducible refine HLN.out.mono ?_); rintro x w2 ⟨rfl, rfl⟩)
      go_loopw [52, 7] (fun iv gv wr => ∃ (k : Nat) (bl gl : List Ev) (v : Value), k ≤ m ∧ iv = .int .i64 k ∧ BR w wr w.heap.size bl v gl gv ∧ BR w wr w.heap.size bl v pl (.slice UA pl.length uc) ∧ (∀ k, (Value.slice UA pl.length uc).ownBlock = some k → gv.ownBlock ≠ some k) ∧ Hid (gl ++ bl = pl)) (fun iv _ _ => m - (intOf iv).toNat)
      case atStart => exact ⟨0, pl, [], v, by omega, rfl, ⟨hbr.below, hbr.box, ⟨rfl, .inl ⟨rfl, rfl⟩⟩, (fun e => by cases e), (fun k e => by cases e)⟩, hbr, (fun k _ e => by cases e), rfl⟩
      case round =>
        obtain ⟨k, bl, gl, v, hk, rfl, hg, hb, hap, HQ⟩ := hrel
        have HQL : Hid (gl.length + bl.length = pl.length) := by show _ = _; rw [← HQ.out, List.length_append]
        have HBW : Hid (bl.any wrongB = false) := by
          show _ = _
          have h := HW.out
          rw [← HQ.out, List.any_append] at h
          simp only [Bool.or_eq_false_iff] at h
          exact h.2
        by_cases hlt : k < m
        · have hkx : k < ms.length := by rw [HM.out]; exact hlt
          obtain ⟨ad, rfl⟩ := hr2.some_ (by omega)
          have hcell := (hr2.below hg.below).cell ad rfl k _ (nums_get .u8 ms k hkx)
          have hx := HMS.out ms[k] (List.getElem_mem hkx)
          generalize ms[k] = x at hcell hx
          obtain ⟨z, rfl⟩ := Int.eq_ofNat_of_zero_le hx.1
          have htk := mtake w.heap.size w.heap.size 20 bl v (z % 9) wr hg.box (by decide) (by have := HQL.out; have := HP.out; omega) (by omega) hg.below.size
          rw [show ((z % 9 : Nat) : Int) = (z : Int) % 9 by omega] at htk
          generalize batchN bl (max (z % 9) 1) = N at htk
          have HTK := Lib.hid htk
          clear htk hkx
          by_cases hz : 127 < z
          · have hz1 : (127 : Int) < (z : Int) := by omega
            have hz2 : decide ((127 : Int) < (z : Int)) = true := by simp; omega
            go_wp2_with (first
              | (go_at_call 9; (with_reducible refine HTK.out.mono ?_); rintro e w4 ⟨vx, v4, rfl, hox, hc4, hm4, hf4, hd4, hN⟩; obtain ⟨XA, xc, hvx, hrx⟩ := own_rds hox; subst hvx; have hg4 := hg.act (Nat.le_refl _) hc4 (fun k hk => .inl hk) hm4 (.inr hf4); have hb4 := hb.act (Nat.le_refl _) hc4 (fun k hk => .inl hk) hm4 (.inr hf4); have hmy := mayE_ok (room := 20) (n := (bl.drop N).length) (l := bl.take N) (by have h := HBW.out; rw [← List.take_append_drop N bl, List.any_append] at h; simp only [Bool.or_eq_false_iff] at h; exact h.1) (by have := HQL.out; have := HP.out; rw [List.length_take, List.length_drop]; omega); have hud := mundo w.heap.size w.heap.size 20 (bl.drop N) v4 XA N xc (bl.take N) w4 hm4 (by decide) (by decide) (by rw [List.length_drop]; have := HQL.out; have := HP.out; omega) hrx (by have := HQL.out; have := HP.out; omega) hg4.below.size; rw [hmy] at hud; have HUD := Lib.hid hud; clear hud hmy)
              | (go_at_call 10; (with_reducible refine HUD.out.mono ?_); rintro e w5 ⟨rfl, hu5, _⟩; obtain ⟨hc5, v5, hm5, hf5⟩ := hu5 (by first | rfl | trivial); have hg5 := hg4.act (Nat.le_refl _) hc5 (fun k hk => .inl hk) hm5 (.inr hf5); have hb5 := hb4.act (Nat.le_refl _) hc5 (fun k hk => .inl hk) hm5 (.inr hf5)))
            rw [List.take_append_drop] at hg5 hb5
            exact ⟨⟨k + 1, bl, gl, v5, by omega, by go_num, hg5, hb5, hap, HQ.out⟩, by simp [intOf]; omega⟩
          · have hz2 : decide ((127 : Int) < (z : Int)) = false := by simp; omega
            clear hz
            go_wp2_with (first
              | (go_at_call 9; (with_reducible refine HTK.out.mono ?_); rintro e w4 ⟨vx, v4, rfl, hox, hc4, hm4, hf4, hd4, hN⟩; obtain ⟨XA, xc, hvx, hrx⟩ := own_rds hox; subst hvx; have hg4 := hg.act (Nat.le_refl _) hc4 (fun k hk => .inl hk) hm4 (.inr hf4); have hb4 := hb.act (Nat.le_refl _) hc4 (fun k hk => .inl hk) hm4 (.inr hf4))
              | (at_builtin; refine apn (w0 := w) w.heap.size rfl _ _ 22 31 _ 15 120 (by rfl) Try.underlying22 info_ev rfl (by decide) (by decide) _ gl.length (evs gl) XA N xc _ (by rfl) (by rfl) hrx (evs_one _) hg4.row hg4.below hg4.below.size (by have := HQL.out; have := HP.out; omega) ?_; intro v6 w6 h6 hb6 hg6 hat6))
            have h7 : w6.ownsRow w.heap.size 31 15 v6 (gl ++ bl.take N).length (evs (gl ++ bl.take N)) := by
              rw [List.length_append, evs_append, List.length_take, Nat.min_eq_left hN]
              exact h6
            have hg7 := hg4.grow hg6 hb6 h7 hat6
            have hb7 := hb4.rowChg (Chg.of_grown (S := fun k => some k = _) hg6 (fun k e => e.symm)) (fun k e => (hg4.row.lt k e.symm).1) (fun e => hg4.nb e.symm) (fun k e e2 => hg4.ap k e2.symm e) (fun k e e2 => hap k e e2.symm)
            refine ⟨⟨k + 1, bl.drop N, gl ++ bl.take N, v4, by omega, by go_num, hg7, hb7, fun k e => ?_, ?_⟩, by simp [intOf]; omega⟩
            · rcases hat6 with h | ⟨g, h, h8⟩
              · rw [h]; exact hap k e
              · rw [h]; intro e2; cases e2; have := (hb4.row.lt _ e).2; omega
            · show _ = _
              rw [List.append_assoc, List.take_append_drop, HQ.out]
        · have HAL := Lib.hid (mall w.heap.size w.heap.size 20 bl v wr hg.box (by decide) (by have := HQL.out; have := HP.out; omega))
          go_wp2_with (first
            | (go_at_call 12; (with_reducible refine HAL.out.mono ?_); rintro e w4 ⟨⟨v4, rfl, hown4⟩, hb4⟩; obtain ⟨XA, xc, hvx, hrx⟩ := own_rds hown4; subst hvx; have hg4 := hg.more hb4; have hbb4 := hb.more hb4)
            | (at_builtin; refine apn (w0 := w) w.heap.size rfl _ _ 22 31 _ 15 120 (by rfl) Try.underlying22 info_ev rfl (by decide) (by decide) _ gl.length (evs gl) XA bl.length xc _ (by rfl) (by rfl) hrx (evs_one _) hg4.row hg4.below hg4.below.size (by have := HQL.out; have := HP.out; omega) ?_; intro v6 w6 h6 hb6 hg6 hat6; have hb7 := hbb4.rowChg (Chg.of_grown (S := fun k => some k = _) hg6 (fun k e => e.symm)) (fun k e => (hg4.row.lt k e.symm).1) (fun e => hg4.nb e.symm) (fun k e e2 => hg4.ap k e2.symm e) (fun k e e2 => hap k e e2.symm); rw [HQL.out, ← evs_append, HQ.out] at h6; obtain ⟨YA, yc, hvy, hry⟩ := own_rds h6; subst hvy; have HSM := Lib.hid (ssame_eq YA UA pl.length yc uc pl w6 hry (own_rds' hb7.row).2))
            | (go_at_call 11; (with_reducible refine HSM.out.mono ?_); rintro e w8 ⟨rfl, hb8⟩)
            | (go_at_call 5; (with_reducible refine (HL.out _).mono ?_); rintro e w9 ⟨rfl, hb9⟩))
          go_ret
          exact ⟨rfl, below_then (below_then hb6 hb6.size hb8) (Nat.le_trans hb6.size hb8.size) hb9⟩
end Go.Proofs.Ytjefnhlpidjndaa
