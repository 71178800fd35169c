/- Package share: who gets a core next. -/
import Derived.Test.YtmacpgjmhaoneaaShare
namespace Go.Proofs.Ytmacpgjmhaoneaa
open Go.RowKit
theorem getD_of {xs : List Int} {i : Nat} (h : i < xs.length) : xs[i]? = some (xs.getD i 0) := by simp [List.getD_eq_getElem?_getD, h]
theorem getDc_of {l : List Cl} {i : Nat} (h : i < l.length) : l[i]? = some (l.getD i default) := by simp [List.getD_eq_getElem?_getD, h]
theorem int_read {w : World} {ad : Addr} {n c : Nat} {xs : List Int} (h : Rds w 1 (some ad) n c (nums .i64 xs)) {i : Nat} (hi : i < xs.length) : w.cell? (ad.add i) = some (.int .i64 (xs.getD i 0)) := by
  have e : xs.getD i 0 = xs[i] := by simp [List.getD_eq_getElem?_getD, hi]
  rw [e]
  exact h.cell ad rfl i _ (nums_get .i64 xs i hi)
theorem cmp_less (a b : Int) : decide (cmpV a b < 0) = decide (a < b) := by
  unfold cmpV
  by_cases h : a < b
  · simp [h]
  · rw [if_neg h]
    split <;> simp [h]
def bestI : Option Nat → Int
  | none => -1
  | some b => b
def betterV (l : List Cl) (xs : List Int) (i : Nat) : Option Nat → Bool
  | none => true
  | some b => lessC l xs i b
set_option maxRecDepth 100000 in
set_option maxHeartbeats 2000000 in
theorem hbetter (bb bx bl : Nat) (B : Option Nat) (ad bd : Addr) (n c d : Nat) (xs : List Int) (l : List Cl) (i : Nat) (w : World) (h1 : w.cell? ⟨bb, 0, none⟩ = some (.int .i64 (bestI B))) (h2 : w.cell? ⟨bx, 0, none⟩ = some (.slice (some ad) n c)) (h3 : w.cell? ⟨bl, 0, none⟩ = some (.slice (some bd) n d))
    (hr : Rds w 1 (some ad) n c (nums .i64 xs)) (hr2 : Rds w 2 (some bd) n d (cls l)) (hi : i < n) (hb : ∀ b, B = some b → b < n) (hx : ∀ x ∈ xs, I64 x) (hw : ∀ q ∈ l, I64 q.weight) :
    Calls Try.prog 29 #[.int .i64 i, .pointer (some ⟨bb, 0, none⟩), .pointer (some ⟨bx, 0, none⟩), .pointer (some ⟨bl, 0, none⟩)] w fun e w' => e = .returned (.bool (betterV l xs i B)) ∧ Below w.heap.size w w' := by
  have hxl : xs.length = n := by have := hr.len; rw [nums_length] at this; omega
  have hll := cls_len hr2
  cases B with
  | none =>
    simp only [bestI, betterV] at h1 ⊢
    go_enter Try.func29, Try.ntmps29
    go_wp2
    obtain ⟨T, hT⟩ : ∃ T : Nat → Fact, ∀ t_, T t_ = ([Fact.eq (.int .i64 (-1)), Fact.eq (.bool true), Fact.eq (.bool true), Fact.eq (undef), Fact.eq (undef), Fact.eq (undef), Fact.eq (undef), Fact.eq (undef), Fact.eq (undef), Fact.eq (undef), Fact.eq (undef), Fact.eq (undef), Fact.eq (undef), Fact.eq (undef), Fact.eq (undef), Fact.eq (undef), Fact.eq (undef), Fact.eq (undef), Fact.eq (undef), Fact.eq (undef), Fact.eq (undef), Fact.eq (undef), Fact.eq (undef), Fact.eq (.bool true), Fact.eq (.bool true)] : List (Fact)).getD t_ Fact.any := ⟨_, fun _ => rfl⟩
    refine region_tab [(0, 6), (1, 7), (2, 8), (3, 9), (4, 10), (5, 11), (6, 12), (7, 13), (8, 14), (9, 15), (10, 16), (11, 17), (12, 18), (13, 19), (14, 20), (15, 21), (16, 22), (17, 23), (18, 24), (19, 25), (20, 26), (21, 27), (22, 28), (23, 29), (24, 5)] T (by kernel_rfl) (by kernel_rfl) (by kernel_rfl) (by kernel_rfl) (by kernel_rfl) ?_ ?_
    · skip
      refine stepsAll_cons (k := 0) ?_ ?_
      · intro fa fx fW hF fB hE K fK
        have ev1 : fa.tmps[1]?.getD undef = .pointer (some ⟨bb, 0, none⟩) := hF.eo 1 (by kernel_rfl)
        have h1 := cell_below fB h1
        refine wpOp_val rfl (wanted_none rfl) ?_ (fK (.int .i64 (-1)) fW (Below.refl _ _) (by rw [hT]; exact rfl))
        clear fK hE hF
        go_simp
      refine stepsAll_cons (k := 1) ?_ ?_
      · intro fa fx fW hF fB hE K fK
        have q0 : fx 0 = .int .i64 (-1) := by have q := hE ⟨0, .data⟩ (by simp) rfl; rw [hT] at q; exact q
        have ev6 : fa.tmps[6]?.getD undef = .int .i64 (-1) := (hF.ev 0 6 (by kernel_rfl)).trans q0
        refine wpOp_val rfl (wanted_none rfl) ?_ (fK (.bool true) fW (Below.refl _ _) (by rw [hT]; exact rfl))
        clear fK hE hF
        go_simp
      refine stepsAll_cons (k := 2) ?_ ?_
      · intro fa fx fW hF fB hE K fK
        have q1 : fx 1 = .bool true := by have q := hE ⟨1, .data⟩ (by simp) rfl; rw [hT] at q; exact q
        have ev7 : fa.tmps[7]?.getD undef = .bool true := (hF.ev 1 7 (by kernel_rfl)).trans q1
        refine wpOp_val rfl (wanted_none rfl) ?_ (fK (.bool true) fW (Below.refl _ _) (by rw [hT]; exact rfl))
        clear fK hE hF
        go_simp
      refine stepsAll_cons (k := 3) ?_ ?_
      · intro fa fx fW hF fB hE K fK
        have q2 : fx 2 = .bool true := by have q := hE ⟨2, .guard⟩ (by simp) rfl; rw [hT] at q; exact q
        have ev2 : fa.tmps[2]?.getD undef = .pointer (some ⟨bx, 0, none⟩) := hF.eo 2 (by kernel_rfl)
        exact wpOp_skip rfl (by simp [Region.wanted, hF.yes 2 8 (by kernel_rfl) true q2]) (fK undef fW (Below.refl _ _) (by rw [hT]; exact rfl))
      refine stepsAll_cons (k := 4) ?_ ?_
      · intro fa fx fW hF fB hE K fK
        have q2 : fx 2 = .bool true := by have q := hE ⟨2, .guard⟩ (by simp) rfl; rw [hT] at q; exact q
        have ev0 : fa.tmps[0]?.getD undef = .int .i64 i := hF.eo 0 (by kernel_rfl)
        exact wpOp_skip rfl (by simp [Region.wanted, hF.yes 2 8 (by kernel_rfl) true q2]) (fK undef fW (Below.refl _ _) (by rw [hT]; exact rfl))
      refine stepsAll_cons (k := 5) ?_ ?_
      · intro fa fx fW hF fB hE K fK
        have q2 : fx 2 = .bool true := by have q := hE ⟨2, .guard⟩ (by simp) rfl; rw [hT] at q; exact q
        have q3 : fx 3 = undef := by have q := hE ⟨3, .data⟩ (by simp) rfl; rw [hT] at q; exact q
        have q4 : fx 4 = undef := by have q := hE ⟨4, .data⟩ (by simp) rfl; rw [hT] at q; exact q
        have ev9 : fa.tmps[9]?.getD undef = undef := (hF.ev 3 9 (by kernel_rfl)).trans q3
        have ev10 : fa.tmps[10]?.getD undef = undef := (hF.ev 4 10 (by kernel_rfl)).trans q4
        exact wpOp_skip rfl (by simp [Region.wanted, hF.yes 2 8 (by kernel_rfl) true q2]) (fK undef fW (Below.refl _ _) (by rw [hT]; exact rfl))
      refine stepsAll_cons (k := 6) ?_ ?_
      · intro fa fx fW hF fB hE K fK
        have q2 : fx 2 = .bool true := by have q := hE ⟨2, .guard⟩ (by simp) rfl; rw [hT] at q; exact q
        have q5 : fx 5 = undef := by have q := hE ⟨5, .data⟩ (by simp) rfl; rw [hT] at q; exact q
        have ev11 : fa.tmps[11]?.getD undef = undef := (hF.ev 5 11 (by kernel_rfl)).trans q5
        exact wpOp_skip rfl (by simp [Region.wanted, hF.yes 2 8 (by kernel_rfl) true q2]) (fK undef fW (Below.refl _ _) (by rw [hT]; exact rfl))
      refine stepsAll_cons (k := 7) ?_ ?_
      · intro fa fx fW hF fB hE K fK
        have q2 : fx 2 = .bool true := by have q := hE ⟨2, .guard⟩ (by simp) rfl; rw [hT] at q; exact q
        have ev3 : fa.tmps[3]?.getD undef = .pointer (some ⟨bl, 0, none⟩) := hF.eo 3 (by kernel_rfl)
        exact wpOp_skip rfl (by simp [Region.wanted, hF.yes 2 8 (by kernel_rfl) true q2]) (fK undef fW (Below.refl _ _) (by rw [hT]; exact rfl))
      refine stepsAll_cons (k := 8) ?_ ?_
      · intro fa fx fW hF fB hE K fK
        have q2 : fx 2 = .bool true := by have q := hE ⟨2, .guard⟩ (by simp) rfl; rw [hT] at q; exact q
        have ev0 : fa.tmps[0]?.getD undef = .int .i64 i := hF.eo 0 (by kernel_rfl)
        exact wpOp_skip rfl (by simp [Region.wanted, hF.yes 2 8 (by kernel_rfl) true q2]) (fK undef fW (Below.refl _ _) (by rw [hT]; exact rfl))
      refine stepsAll_cons (k := 9) ?_ ?_
      · intro fa fx fW hF fB hE K fK
        have q2 : fx 2 = .bool true := by have q := hE ⟨2, .guard⟩ (by simp) rfl; rw [hT] at q; exact q
        have q7 : fx 7 = undef := by have q := hE ⟨7, .data⟩ (by simp) rfl; rw [hT] at q; exact q
        have q8 : fx 8 = undef := by have q := hE ⟨8, .data⟩ (by simp) rfl; rw [hT] at q; exact q
        have ev13 : fa.tmps[13]?.getD undef = undef := (hF.ev 7 13 (by kernel_rfl)).trans q7
        have ev14 : fa.tmps[14]?.getD undef = undef := (hF.ev 8 14 (by kernel_rfl)).trans q8
        exact wpOp_skip rfl (by simp [Region.wanted, hF.yes 2 8 (by kernel_rfl) true q2]) (fK undef fW (Below.refl _ _) (by rw [hT]; exact rfl))
      refine stepsAll_cons (k := 10) ?_ ?_
      · intro fa fx fW hF fB hE K fK
        have q2 : fx 2 = .bool true := by have q := hE ⟨2, .guard⟩ (by simp) rfl; rw [hT] at q; exact q
        have q9 : fx 9 = undef := by have q := hE ⟨9, .data⟩ (by simp) rfl; rw [hT] at q; exact q
        have ev15 : fa.tmps[15]?.getD undef = undef := (hF.ev 9 15 (by kernel_rfl)).trans q9
        exact wpOp_skip rfl (by simp [Region.wanted, hF.yes 2 8 (by kernel_rfl) true q2]) (fK undef fW (Below.refl _ _) (by rw [hT]; exact rfl))
      refine stepsAll_cons (k := 11) ?_ ?_
      · intro fa fx fW hF fB hE K fK
        have q2 : fx 2 = .bool true := by have q := hE ⟨2, .guard⟩ (by simp) rfl; rw [hT] at q; exact q
        have q10 : fx 10 = undef := by have q := hE ⟨10, .data⟩ (by simp) rfl; rw [hT] at q; exact q
        have ev16 : fa.tmps[16]?.getD undef = undef := (hF.ev 10 16 (by kernel_rfl)).trans q10
        exact wpOp_skip rfl (by simp [Region.wanted, hF.yes 2 8 (by kernel_rfl) true q2]) (fK undef fW (Below.refl _ _) (by rw [hT]; exact rfl))
      refine stepsAll_cons (k := 12) ?_ ?_
      · intro fa fx fW hF fB hE K fK
        have q2 : fx 2 = .bool true := by have q := hE ⟨2, .guard⟩ (by simp) rfl; rw [hT] at q; exact q
        have ev2 : fa.tmps[2]?.getD undef = .pointer (some ⟨bx, 0, none⟩) := hF.eo 2 (by kernel_rfl)
        exact wpOp_skip rfl (by simp [Region.wanted, hF.yes 2 8 (by kernel_rfl) true q2]) (fK undef fW (Below.refl _ _) (by rw [hT]; exact rfl))
      refine stepsAll_cons (k := 13) ?_ ?_
      · intro fa fx fW hF fB hE K fK
        have q2 : fx 2 = .bool true := by have q := hE ⟨2, .guard⟩ (by simp) rfl; rw [hT] at q; exact q
        have ev1 : fa.tmps[1]?.getD undef = .pointer (some ⟨bb, 0, none⟩) := hF.eo 1 (by kernel_rfl)
        exact wpOp_skip rfl (by simp [Region.wanted, hF.yes 2 8 (by kernel_rfl) true q2]) (fK undef fW (Below.refl _ _) (by rw [hT]; exact rfl))
      refine stepsAll_cons (k := 14) ?_ ?_
      · intro fa fx fW hF fB hE K fK
        have q2 : fx 2 = .bool true := by have q := hE ⟨2, .guard⟩ (by simp) rfl; rw [hT] at q; exact q
        have q12 : fx 12 = undef := by have q := hE ⟨12, .data⟩ (by simp) rfl; rw [hT] at q; exact q
        have q13 : fx 13 = undef := by have q := hE ⟨13, .data⟩ (by simp) rfl; rw [hT] at q; exact q
        have ev18 : fa.tmps[18]?.getD undef = undef := (hF.ev 12 18 (by kernel_rfl)).trans q12
        have ev19 : fa.tmps[19]?.getD undef = undef := (hF.ev 13 19 (by kernel_rfl)).trans q13
        exact wpOp_skip rfl (by simp [Region.wanted, hF.yes 2 8 (by kernel_rfl) true q2]) (fK undef fW (Below.refl _ _) (by rw [hT]; exact rfl))
      refine stepsAll_cons (k := 15) ?_ ?_
      · intro fa fx fW hF fB hE K fK
        have q2 : fx 2 = .bool true := by have q := hE ⟨2, .guard⟩ (by simp) rfl; rw [hT] at q; exact q
        have q14 : fx 14 = undef := by have q := hE ⟨14, .data⟩ (by simp) rfl; rw [hT] at q; exact q
        have ev20 : fa.tmps[20]?.getD undef = undef := (hF.ev 14 20 (by kernel_rfl)).trans q14
        exact wpOp_skip rfl (by simp [Region.wanted, hF.yes 2 8 (by kernel_rfl) true q2]) (fK undef fW (Below.refl _ _) (by rw [hT]; exact rfl))
      refine stepsAll_cons (k := 16) ?_ ?_
      · intro fa fx fW hF fB hE K fK
        have q2 : fx 2 = .bool true := by have q := hE ⟨2, .guard⟩ (by simp) rfl; rw [hT] at q; exact q
        have ev3 : fa.tmps[3]?.getD undef = .pointer (some ⟨bl, 0, none⟩) := hF.eo 3 (by kernel_rfl)
        exact wpOp_skip rfl (by simp [Region.wanted, hF.yes 2 8 (by kernel_rfl) true q2]) (fK undef fW (Below.refl _ _) (by rw [hT]; exact rfl))
      refine stepsAll_cons (k := 17) ?_ ?_
      · intro fa fx fW hF fB hE K fK
        have q2 : fx 2 = .bool true := by have q := hE ⟨2, .guard⟩ (by simp) rfl; rw [hT] at q; exact q
        have ev1 : fa.tmps[1]?.getD undef = .pointer (some ⟨bb, 0, none⟩) := hF.eo 1 (by kernel_rfl)
        exact wpOp_skip rfl (by simp [Region.wanted, hF.yes 2 8 (by kernel_rfl) true q2]) (fK undef fW (Below.refl _ _) (by rw [hT]; exact rfl))
      refine stepsAll_cons (k := 18) ?_ ?_
      · intro fa fx fW hF fB hE K fK
        have q2 : fx 2 = .bool true := by have q := hE ⟨2, .guard⟩ (by simp) rfl; rw [hT] at q; exact q
        have q16 : fx 16 = undef := by have q := hE ⟨16, .data⟩ (by simp) rfl; rw [hT] at q; exact q
        have q17 : fx 17 = undef := by have q := hE ⟨17, .data⟩ (by simp) rfl; rw [hT] at q; exact q
        have ev22 : fa.tmps[22]?.getD undef = undef := (hF.ev 16 22 (by kernel_rfl)).trans q16
        have ev23 : fa.tmps[23]?.getD undef = undef := (hF.ev 17 23 (by kernel_rfl)).trans q17
        exact wpOp_skip rfl (by simp [Region.wanted, hF.yes 2 8 (by kernel_rfl) true q2]) (fK undef fW (Below.refl _ _) (by rw [hT]; exact rfl))
      refine stepsAll_cons (k := 19) ?_ ?_
      · intro fa fx fW hF fB hE K fK
        have q2 : fx 2 = .bool true := by have q := hE ⟨2, .guard⟩ (by simp) rfl; rw [hT] at q; exact q
        have q18 : fx 18 = undef := by have q := hE ⟨18, .data⟩ (by simp) rfl; rw [hT] at q; exact q
        have ev24 : fa.tmps[24]?.getD undef = undef := (hF.ev 18 24 (by kernel_rfl)).trans q18
        exact wpOp_skip rfl (by simp [Region.wanted, hF.yes 2 8 (by kernel_rfl) true q2]) (fK undef fW (Below.refl _ _) (by rw [hT]; exact rfl))
      refine stepsAll_cons (k := 20) ?_ ?_
      · intro fa fx fW hF fB hE K fK
        have q2 : fx 2 = .bool true := by have q := hE ⟨2, .guard⟩ (by simp) rfl; rw [hT] at q; exact q
        have q19 : fx 19 = undef := by have q := hE ⟨19, .data⟩ (by simp) rfl; rw [hT] at q; exact q
        have ev25 : fa.tmps[25]?.getD undef = undef := (hF.ev 19 25 (by kernel_rfl)).trans q19
        exact wpOp_skip rfl (by simp [Region.wanted, hF.yes 2 8 (by kernel_rfl) true q2]) (fK undef fW (Below.refl _ _) (by rw [hT]; exact rfl))
      refine stepsAll_cons (k := 21) ?_ ?_
      · intro fa fx fW hF fB hE K fK
        have q2 : fx 2 = .bool true := by have q := hE ⟨2, .chain⟩ (by simp) rfl; rw [hT] at q; exact q
        have q6 : fx 6 = undef := by have q := hE ⟨6, .data⟩ (by simp) rfl; rw [hT] at q; exact q
        have q11 : fx 11 = undef := by have q := hE ⟨11, .data⟩ (by simp) rfl; rw [hT] at q; exact q
        have q15 : fx 15 = undef := by have q := hE ⟨15, .data⟩ (by simp) rfl; rw [hT] at q; exact q
        have q20 : fx 20 = undef := by have q := hE ⟨20, .data⟩ (by simp) rfl; rw [hT] at q; exact q
        have ev12 : fa.tmps[12]?.getD undef = undef := (hF.ev 6 12 (by kernel_rfl)).trans q6
        have ev17 : fa.tmps[17]?.getD undef = undef := (hF.ev 11 17 (by kernel_rfl)).trans q11
        have ev21 : fa.tmps[21]?.getD undef = undef := (hF.ev 15 21 (by kernel_rfl)).trans q15
        have ev26 : fa.tmps[26]?.getD undef = undef := (hF.ev 20 26 (by kernel_rfl)).trans q20
        exact wpOp_skip rfl (by simp [Region.wanted, hF.yes 2 8 (by kernel_rfl) true q2]) (fK undef fW (Below.refl _ _) (by rw [hT]; exact rfl))
      refine stepsAll_cons (k := 22) ?_ ?_
      · intro fa fx fW hF fB hE K fK
        have q2 : fx 2 = .bool true := by have q := hE ⟨2, .guard⟩ (by simp) rfl; rw [hT] at q; exact q
        have q21 : fx 21 = undef := by have q := hE ⟨21, .data⟩ (by simp) rfl; rw [hT] at q; exact q
        have ev27 : fa.tmps[27]?.getD undef = undef := (hF.ev 21 27 (by kernel_rfl)).trans q21
        exact wpOp_skip rfl (by simp [Region.wanted, hF.yes 2 8 (by kernel_rfl) true q2]) (fK undef fW (Below.refl _ _) (by rw [hT]; exact rfl))
      refine stepsAll_cons (k := 23) ?_ ?_
      · intro fa fx fW hF fB hE K fK
        have q2 : fx 2 = .bool true := by have q := hE ⟨2, .data⟩ (by simp) rfl; rw [hT] at q; exact q
        have q22 : fx 22 = undef := by have q := hE ⟨22, .data⟩ (by simp) rfl; rw [hT] at q; exact q
        have ev8 : fa.tmps[8]?.getD undef = .bool true := (hF.ev 2 8 (by kernel_rfl)).trans q2
        have ev28 : fa.tmps[28]?.getD undef = undef := (hF.ev 22 28 (by kernel_rfl)).trans q22
        refine wpOp_val rfl (wanted_none rfl) ?_ (fK (.bool true) fW (Below.refl _ _) (by rw [hT]; exact rfl))
        clear fK hE hF
        go_simp
      refine stepsAll_cons (k := 24) ?_ ?_
      · intro fa fx fW hF fB hE K fK
        have q23 : fx 23 = .bool true := by have q := hE ⟨23, .data⟩ (by simp) rfl; rw [hT] at q; exact q
        have ev29 : fa.tmps[29]?.getD undef = .bool true := (hF.ev 23 29 (by kernel_rfl)).trans q23
        refine wpOp_val rfl (wanted_none rfl) ?_ (fK (.bool true) fW (Below.refl _ _) (by rw [hT]; exact rfl))
        clear fK hE hF
        go_simp
      exact stepsAll_nil
    intro fa fx fW hF fB hx
    have q24 : fx 24 = .bool true := by have q := hx 24 (by decide); rw [hT] at q; exact q
    have ev5 : fa.tmps[5]?.getD undef = .bool true := (hF.ev 24 5 (by kernel_rfl)).trans q24
    rw [hF.eq]
    clear hF hx
    simp only [putAll, Act.put, List.setIfInBounds_toArray, List.set_cons_zero, List.set_cons_succ, q24]
    go_wp2
    go_ret
    exact ⟨rfl, fB⟩
  | some b =>
    simp only [bestI, betterV] at h1 ⊢
    have hbn := hb b rfl
    have hix : i < xs.length := by omega
    have hbx : b < xs.length := by omega
    have hc1 := int_read hr hix
    have hc2 := int_read hr hbx
    have hc3 := (cl_read hr2 i _ (getDc_of (by omega))).1
    have hc4 := (cl_read hr2 b _ (getDc_of (by omega))).1
    have HC := Lib.hid (fun W => ncross (xs.getD i 0) (l.getD i default).weight (xs.getD b 0) (l.getD b default).weight
      (hx _ (List.mem_of_getElem? (getD_of hix))) (hw _ (List.mem_of_getElem? (getDc_of (by omega)))) (hx _ (List.mem_of_getElem? (getD_of hbx))) (hw _ (List.mem_of_getElem? (getDc_of (by omega)))) W)
    have hl : lessC l xs i b = decide (cmpV (xs.getD i 0 * (l.getD b default).weight) (xs.getD b 0 * (l.getD i default).weight) < 0) := (cmp_less _ _).symm
    rw [hl]
    clear hl hx hw hb hr hr2
    generalize cmpV (xs.getD i 0 * (l.getD b default).weight) (xs.getD b 0 * (l.getD i default).weight) = r at *
    generalize xs.getD i 0 = xi at *
    generalize xs.getD b 0 = xb at *
    generalize (l.getD i default).weight = wi at *
    generalize (l.getD b default).weight = wb at *
    go_enter Try.func29, Try.ntmps29
    go_wp2
    obtain ⟨T, hT⟩ : ∃ T : Nat → Fact, ∀ t_, T t_ = ([Fact.eq (.int .i64 b), Fact.eq (.bool false), Fact.eq (.bool false), Fact.eq (.slice (some ad) n c), Fact.eq (.int .i64 i), Fact.eq (.pointer (some (ad.add i))), Fact.eq (.int .i64 xi), Fact.eq (.slice (some bd) n d), Fact.eq (.int .i64 i), Fact.eq (.pointer (some (bd.add (i * 2)))), Fact.eq (.pointer (some (bd.add (i * 2)))), Fact.eq (.int .i64 wi), Fact.eq (.slice (some ad) n c), Fact.eq (.int .i64 b), Fact.eq (.pointer (some (ad.add b))), Fact.eq (.int .i64 xb), Fact.eq (.slice (some bd) n d), Fact.eq (.int .i64 b), Fact.eq (.pointer (some (bd.add (b * 2)))), Fact.eq (.pointer (some (bd.add (b * 2)))), Fact.eq (.int .i64 wb), Fact.eq (.int .i64 r), Fact.eq (.bool (decide (r < 0))), Fact.eq (.bool (decide (r < 0))), Fact.eq (.bool (decide (r < 0)))] : List (Fact)).getD t_ Fact.any := ⟨_, fun _ => rfl⟩
    refine region_tab [(0, 6), (1, 7), (2, 8), (3, 9), (4, 10), (5, 11), (6, 12), (7, 13), (8, 14), (9, 15), (10, 16), (11, 17), (12, 18), (13, 19), (14, 20), (15, 21), (16, 22), (17, 23), (18, 24), (19, 25), (20, 26), (21, 27), (22, 28), (23, 29), (24, 5)] T (by kernel_rfl) (by kernel_rfl) (by kernel_rfl) (by kernel_rfl) (by kernel_rfl) ?_ ?_
    · skip
      refine stepsAll_cons (k := 0) ?_ ?_
      · intro fa fx fW hF fB hE K fK
        have ev1 : fa.tmps[1]?.getD undef = .pointer (some ⟨bb, 0, none⟩) := hF.eo 1 (by kernel_rfl)
        have h1 := cell_below fB h1
        refine wpOp_val rfl (wanted_none rfl) ?_ (fK (.int .i64 b) fW (Below.refl _ _) (by rw [hT]; exact rfl))
        clear fK hE hF
        go_simp
      refine stepsAll_cons (k := 1) ?_ ?_
      · intro fa fx fW hF fB hE K fK
        have q0 : fx 0 = .int .i64 b := by have q := hE ⟨0, .data⟩ (by simp) rfl; rw [hT] at q; exact q
        have ev6 : fa.tmps[6]?.getD undef = .int .i64 b := (hF.ev 0 6 (by kernel_rfl)).trans q0
        refine wpOp_val rfl (wanted_none rfl) ?_ (fK (.bool false) fW (Below.refl _ _) (by rw [hT]; exact rfl))
        clear fK hE hF
        go_simp
      refine stepsAll_cons (k := 2) ?_ ?_
      · intro fa fx fW hF fB hE K fK
        have q1 : fx 1 = .bool false := by have q := hE ⟨1, .data⟩ (by simp) rfl; rw [hT] at q; exact q
        have ev7 : fa.tmps[7]?.getD undef = .bool false := (hF.ev 1 7 (by kernel_rfl)).trans q1
        refine wpOp_val rfl (wanted_none rfl) ?_ (fK (.bool false) fW (Below.refl _ _) (by rw [hT]; exact rfl))
        clear fK hE hF
        go_simp
      refine stepsAll_cons (k := 3) ?_ ?_
      · intro fa fx fW hF fB hE K fK
        have q2 : fx 2 = .bool false := by have q := hE ⟨2, .guard⟩ (by simp) rfl; rw [hT] at q; exact q
        have ev2 : fa.tmps[2]?.getD undef = .pointer (some ⟨bx, 0, none⟩) := hF.eo 2 (by kernel_rfl)
        have h2 := cell_below fB h2
        refine wpOp_val rfl (wanted_not rfl (hF.yes 2 8 (by kernel_rfl) false q2)) ?_ (fK (.slice (some ad) n c) fW (Below.refl _ _) (by rw [hT]; exact rfl))
        clear fK hE hF
        go_simp
      refine stepsAll_cons (k := 4) ?_ ?_
      · intro fa fx fW hF fB hE K fK
        have q2 : fx 2 = .bool false := by have q := hE ⟨2, .guard⟩ (by simp) rfl; rw [hT] at q; exact q
        have ev0 : fa.tmps[0]?.getD undef = .int .i64 i := hF.eo 0 (by kernel_rfl)
        refine wpOp_val rfl (wanted_not rfl (hF.yes 2 8 (by kernel_rfl) false q2)) ?_ (fK (.int .i64 i) fW (Below.refl _ _) (by rw [hT]; exact rfl))
        clear fK hE hF
        go_simp
      refine stepsAll_cons (k := 5) ?_ ?_
      · intro fa fx fW hF fB hE K fK
        have q2 : fx 2 = .bool false := by have q := hE ⟨2, .guard⟩ (by simp) rfl; rw [hT] at q; exact q
        have q3 : fx 3 = .slice (some ad) n c := by have q := hE ⟨3, .data⟩ (by simp) rfl; rw [hT] at q; exact q
        have q4 : fx 4 = .int .i64 i := by have q := hE ⟨4, .data⟩ (by simp) rfl; rw [hT] at q; exact q
        have ev9 : fa.tmps[9]?.getD undef = .slice (some ad) n c := (hF.ev 3 9 (by kernel_rfl)).trans q3
        have ev10 : fa.tmps[10]?.getD undef = .int .i64 i := (hF.ev 4 10 (by kernel_rfl)).trans q4
        refine wpOp_val rfl (wanted_not rfl (hF.yes 2 8 (by kernel_rfl) false q2)) ?_ (fK (.pointer (some (ad.add i))) fW (Below.refl _ _) (by rw [hT]; exact rfl))
        clear fK hE hF
        go_simp
      refine stepsAll_cons (k := 6) ?_ ?_
      · intro fa fx fW hF fB hE K fK
        have q2 : fx 2 = .bool false := by have q := hE ⟨2, .guard⟩ (by simp) rfl; rw [hT] at q; exact q
        have q5 : fx 5 = .pointer (some (ad.add i)) := by have q := hE ⟨5, .data⟩ (by simp) rfl; rw [hT] at q; exact q
        have ev11 : fa.tmps[11]?.getD undef = .pointer (some (ad.add i)) := (hF.ev 5 11 (by kernel_rfl)).trans q5
        have hc1 := cell_below fB hc1
        refine wpOp_val rfl (wanted_not rfl (hF.yes 2 8 (by kernel_rfl) false q2)) ?_ (fK (.int .i64 xi) fW (Below.refl _ _) (by rw [hT]; exact rfl))
        clear fK hE hF
        go_simp
      refine stepsAll_cons (k := 7) ?_ ?_
      · intro fa fx fW hF fB hE K fK
        have q2 : fx 2 = .bool false := by have q := hE ⟨2, .guard⟩ (by simp) rfl; rw [hT] at q; exact q
        have ev3 : fa.tmps[3]?.getD undef = .pointer (some ⟨bl, 0, none⟩) := hF.eo 3 (by kernel_rfl)
        have h3 := cell_below fB h3
        refine wpOp_val rfl (wanted_not rfl (hF.yes 2 8 (by kernel_rfl) false q2)) ?_ (fK (.slice (some bd) n d) fW (Below.refl _ _) (by rw [hT]; exact rfl))
        clear fK hE hF
        go_simp
      refine stepsAll_cons (k := 8) ?_ ?_
      · intro fa fx fW hF fB hE K fK
        have q2 : fx 2 = .bool false := by have q := hE ⟨2, .guard⟩ (by simp) rfl; rw [hT] at q; exact q
        have ev0 : fa.tmps[0]?.getD undef = .int .i64 i := hF.eo 0 (by kernel_rfl)
        refine wpOp_val rfl (wanted_not rfl (hF.yes 2 8 (by kernel_rfl) false q2)) ?_ (fK (.int .i64 i) fW (Below.refl _ _) (by rw [hT]; exact rfl))
        clear fK hE hF
        go_simp
      refine stepsAll_cons (k := 9) ?_ ?_
      · intro fa fx fW hF fB hE K fK
        have q2 : fx 2 = .bool false := by have q := hE ⟨2, .guard⟩ (by simp) rfl; rw [hT] at q; exact q
        have q7 : fx 7 = .slice (some bd) n d := by have q := hE ⟨7, .data⟩ (by simp) rfl; rw [hT] at q; exact q
        have q8 : fx 8 = .int .i64 i := by have q := hE ⟨8, .data⟩ (by simp) rfl; rw [hT] at q; exact q
        have ev13 : fa.tmps[13]?.getD undef = .slice (some bd) n d := (hF.ev 7 13 (by kernel_rfl)).trans q7
        have ev14 : fa.tmps[14]?.getD undef = .int .i64 i := (hF.ev 8 14 (by kernel_rfl)).trans q8
        refine wpOp_val rfl (wanted_not rfl (hF.yes 2 8 (by kernel_rfl) false q2)) ?_ (fK (.pointer (some (bd.add (i * 2)))) fW (Below.refl _ _) (by rw [hT]; exact rfl))
        clear fK hE hF
        go_simp
      refine stepsAll_cons (k := 10) ?_ ?_
      · intro fa fx fW hF fB hE K fK
        have q2 : fx 2 = .bool false := by have q := hE ⟨2, .guard⟩ (by simp) rfl; rw [hT] at q; exact q
        have q9 : fx 9 = .pointer (some (bd.add (i * 2))) := by have q := hE ⟨9, .data⟩ (by simp) rfl; rw [hT] at q; exact q
        have ev15 : fa.tmps[15]?.getD undef = .pointer (some (bd.add (i * 2))) := (hF.ev 9 15 (by kernel_rfl)).trans q9
        refine wpOp_val rfl (wanted_not rfl (hF.yes 2 8 (by kernel_rfl) false q2)) ?_ (fK (.pointer (some (bd.add (i * 2)))) fW (Below.refl _ _) (by rw [hT]; exact rfl))
        clear fK hE hF
        go_simp
      refine stepsAll_cons (k := 11) ?_ ?_
      · intro fa fx fW hF fB hE K fK
        have q2 : fx 2 = .bool false := by have q := hE ⟨2, .guard⟩ (by simp) rfl; rw [hT] at q; exact q
        have q10 : fx 10 = .pointer (some (bd.add (i * 2))) := by have q := hE ⟨10, .data⟩ (by simp) rfl; rw [hT] at q; exact q
        have ev16 : fa.tmps[16]?.getD undef = .pointer (some (bd.add (i * 2))) := (hF.ev 10 16 (by kernel_rfl)).trans q10
        have hc3 := cell_below fB hc3
        refine wpOp_val rfl (wanted_not rfl (hF.yes 2 8 (by kernel_rfl) false q2)) ?_ (fK (.int .i64 wi) fW (Below.refl _ _) (by rw [hT]; exact rfl))
        clear fK hE hF
        go_simp
      refine stepsAll_cons (k := 12) ?_ ?_
      · intro fa fx fW hF fB hE K fK
        have q2 : fx 2 = .bool false := by have q := hE ⟨2, .guard⟩ (by simp) rfl; rw [hT] at q; exact q
        have ev2 : fa.tmps[2]?.getD undef = .pointer (some ⟨bx, 0, none⟩) := hF.eo 2 (by kernel_rfl)
        have h2 := cell_below fB h2
        refine wpOp_val rfl (wanted_not rfl (hF.yes 2 8 (by kernel_rfl) false q2)) ?_ (fK (.slice (some ad) n c) fW (Below.refl _ _) (by rw [hT]; exact rfl))
        clear fK hE hF
        go_simp
      refine stepsAll_cons (k := 13) ?_ ?_
      · intro fa fx fW hF fB hE K fK
        have q2 : fx 2 = .bool false := by have q := hE ⟨2, .guard⟩ (by simp) rfl; rw [hT] at q; exact q
        have ev1 : fa.tmps[1]?.getD undef = .pointer (some ⟨bb, 0, none⟩) := hF.eo 1 (by kernel_rfl)
        have h1 := cell_below fB h1
        refine wpOp_val rfl (wanted_not rfl (hF.yes 2 8 (by kernel_rfl) false q2)) ?_ (fK (.int .i64 b) fW (Below.refl _ _) (by rw [hT]; exact rfl))
        clear fK hE hF
        go_simp
      refine stepsAll_cons (k := 14) ?_ ?_
      · intro fa fx fW hF fB hE K fK
        have q2 : fx 2 = .bool false := by have q := hE ⟨2, .guard⟩ (by simp) rfl; rw [hT] at q; exact q
        have q12 : fx 12 = .slice (some ad) n c := by have q := hE ⟨12, .data⟩ (by simp) rfl; rw [hT] at q; exact q
        have q13 : fx 13 = .int .i64 b := by have q := hE ⟨13, .data⟩ (by simp) rfl; rw [hT] at q; exact q
        have ev18 : fa.tmps[18]?.getD undef = .slice (some ad) n c := (hF.ev 12 18 (by kernel_rfl)).trans q12
        have ev19 : fa.tmps[19]?.getD undef = .int .i64 b := (hF.ev 13 19 (by kernel_rfl)).trans q13
        refine wpOp_val rfl (wanted_not rfl (hF.yes 2 8 (by kernel_rfl) false q2)) ?_ (fK (.pointer (some (ad.add b))) fW (Below.refl _ _) (by rw [hT]; exact rfl))
        clear fK hE hF
        go_simp
      refine stepsAll_cons (k := 15) ?_ ?_
      · intro fa fx fW hF fB hE K fK
        have q2 : fx 2 = .bool false := by have q := hE ⟨2, .guard⟩ (by simp) rfl; rw [hT] at q; exact q
        have q14 : fx 14 = .pointer (some (ad.add b)) := by have q := hE ⟨14, .data⟩ (by simp) rfl; rw [hT] at q; exact q
        have ev20 : fa.tmps[20]?.getD undef = .pointer (some (ad.add b)) := (hF.ev 14 20 (by kernel_rfl)).trans q14
        have hc2 := cell_below fB hc2
        refine wpOp_val rfl (wanted_not rfl (hF.yes 2 8 (by kernel_rfl) false q2)) ?_ (fK (.int .i64 xb) fW (Below.refl _ _) (by rw [hT]; exact rfl))
        clear fK hE hF
        go_simp
      refine stepsAll_cons (k := 16) ?_ ?_
      · intro fa fx fW hF fB hE K fK
        have q2 : fx 2 = .bool false := by have q := hE ⟨2, .guard⟩ (by simp) rfl; rw [hT] at q; exact q
        have ev3 : fa.tmps[3]?.getD undef = .pointer (some ⟨bl, 0, none⟩) := hF.eo 3 (by kernel_rfl)
        have h3 := cell_below fB h3
        refine wpOp_val rfl (wanted_not rfl (hF.yes 2 8 (by kernel_rfl) false q2)) ?_ (fK (.slice (some bd) n d) fW (Below.refl _ _) (by rw [hT]; exact rfl))
        clear fK hE hF
        go_simp
      refine stepsAll_cons (k := 17) ?_ ?_
      · intro fa fx fW hF fB hE K fK
        have q2 : fx 2 = .bool false := by have q := hE ⟨2, .guard⟩ (by simp) rfl; rw [hT] at q; exact q
        have ev1 : fa.tmps[1]?.getD undef = .pointer (some ⟨bb, 0, none⟩) := hF.eo 1 (by kernel_rfl)
        have h1 := cell_below fB h1
        refine wpOp_val rfl (wanted_not rfl (hF.yes 2 8 (by kernel_rfl) false q2)) ?_ (fK (.int .i64 b) fW (Below.refl _ _) (by rw [hT]; exact rfl))
        clear fK hE hF
        go_simp
      refine stepsAll_cons (k := 18) ?_ ?_
      · intro fa fx fW hF fB hE K fK
        have q2 : fx 2 = .bool false := by have q := hE ⟨2, .guard⟩ (by simp) rfl; rw [hT] at q; exact q
        have q16 : fx 16 = .slice (some bd) n d := by have q := hE ⟨16, .data⟩ (by simp) rfl; rw [hT] at q; exact q
        have q17 : fx 17 = .int .i64 b := by have q := hE ⟨17, .data⟩ (by simp) rfl; rw [hT] at q; exact q
        have ev22 : fa.tmps[22]?.getD undef = .slice (some bd) n d := (hF.ev 16 22 (by kernel_rfl)).trans q16
        have ev23 : fa.tmps[23]?.getD undef = .int .i64 b := (hF.ev 17 23 (by kernel_rfl)).trans q17
        refine wpOp_val rfl (wanted_not rfl (hF.yes 2 8 (by kernel_rfl) false q2)) ?_ (fK (.pointer (some (bd.add (b * 2)))) fW (Below.refl _ _) (by rw [hT]; exact rfl))
        clear fK hE hF
        go_simp
      refine stepsAll_cons (k := 19) ?_ ?_
      · intro fa fx fW hF fB hE K fK
        have q2 : fx 2 = .bool false := by have q := hE ⟨2, .guard⟩ (by simp) rfl; rw [hT] at q; exact q
        have q18 : fx 18 = .pointer (some (bd.add (b * 2))) := by have q := hE ⟨18, .data⟩ (by simp) rfl; rw [hT] at q; exact q
        have ev24 : fa.tmps[24]?.getD undef = .pointer (some (bd.add (b * 2))) := (hF.ev 18 24 (by kernel_rfl)).trans q18
        refine wpOp_val rfl (wanted_not rfl (hF.yes 2 8 (by kernel_rfl) false q2)) ?_ (fK (.pointer (some (bd.add (b * 2)))) fW (Below.refl _ _) (by rw [hT]; exact rfl))
        clear fK hE hF
        go_simp
      refine stepsAll_cons (k := 20) ?_ ?_
      · intro fa fx fW hF fB hE K fK
        have q2 : fx 2 = .bool false := by have q := hE ⟨2, .guard⟩ (by simp) rfl; rw [hT] at q; exact q
        have q19 : fx 19 = .pointer (some (bd.add (b * 2))) := by have q := hE ⟨19, .data⟩ (by simp) rfl; rw [hT] at q; exact q
        have ev25 : fa.tmps[25]?.getD undef = .pointer (some (bd.add (b * 2))) := (hF.ev 19 25 (by kernel_rfl)).trans q19
        have hc4 := cell_below fB hc4
        refine wpOp_val rfl (wanted_not rfl (hF.yes 2 8 (by kernel_rfl) false q2)) ?_ (fK (.int .i64 wb) fW (Below.refl _ _) (by rw [hT]; exact rfl))
        clear fK hE hF
        go_simp
      refine stepsAll_cons (k := 21) ?_ ?_
      · intro fa fx fW hF fB hE K fK
        have q2 : fx 2 = .bool false := by have q := hE ⟨2, .chain⟩ (by simp) rfl; rw [hT] at q; exact q
        have q6 : fx 6 = .int .i64 xi := by have q := hE ⟨6, .data⟩ (by simp) rfl; rw [hT] at q; exact q
        have q11 : fx 11 = .int .i64 wi := by have q := hE ⟨11, .data⟩ (by simp) rfl; rw [hT] at q; exact q
        have q15 : fx 15 = .int .i64 xb := by have q := hE ⟨15, .data⟩ (by simp) rfl; rw [hT] at q; exact q
        have q20 : fx 20 = .int .i64 wb := by have q := hE ⟨20, .data⟩ (by simp) rfl; rw [hT] at q; exact q
        have ev12 : fa.tmps[12]?.getD undef = .int .i64 xi := (hF.ev 6 12 (by kernel_rfl)).trans q6
        have ev17 : fa.tmps[17]?.getD undef = .int .i64 wi := (hF.ev 11 17 (by kernel_rfl)).trans q11
        have ev21 : fa.tmps[21]?.getD undef = .int .i64 xb := (hF.ev 15 21 (by kernel_rfl)).trans q15
        have ev26 : fa.tmps[26]?.getD undef = .int .i64 wb := (hF.ev 20 26 (by kernel_rfl)).trans q20
        refine wpOp_call rfl (wanted_not rfl (hF.yes 2 8 (by kernel_rfl) false q2)) (by go_simp; exact ⟨rfl, rfl⟩) ?_
        refine (HC.out fW).mono ?_
        rintro e w' ⟨rfl, hbb⟩
        exact ⟨_, rfl, fK (.int .i64 r) (w') (hbb) (by rw [hT]; exact rfl)⟩
      refine stepsAll_cons (k := 22) ?_ ?_
      · intro fa fx fW hF fB hE K fK
        have q2 : fx 2 = .bool false := by have q := hE ⟨2, .guard⟩ (by simp) rfl; rw [hT] at q; exact q
        have q21 : fx 21 = .int .i64 r := by have q := hE ⟨21, .data⟩ (by simp) rfl; rw [hT] at q; exact q
        have ev27 : fa.tmps[27]?.getD undef = .int .i64 r := (hF.ev 21 27 (by kernel_rfl)).trans q21
        refine wpOp_val rfl (wanted_not rfl (hF.yes 2 8 (by kernel_rfl) false q2)) ?_ (fK (.bool (decide (r < 0))) fW (Below.refl _ _) (by rw [hT]; exact rfl))
        clear fK hE hF
        go_simp
      refine stepsAll_cons (k := 23) ?_ ?_
      · intro fa fx fW hF fB hE K fK
        have q2 : fx 2 = .bool false := by have q := hE ⟨2, .data⟩ (by simp) rfl; rw [hT] at q; exact q
        have q22 : fx 22 = .bool (decide (r < 0)) := by have q := hE ⟨22, .data⟩ (by simp) rfl; rw [hT] at q; exact q
        have ev8 : fa.tmps[8]?.getD undef = .bool false := (hF.ev 2 8 (by kernel_rfl)).trans q2
        have ev28 : fa.tmps[28]?.getD undef = .bool (decide (r < 0)) := (hF.ev 22 28 (by kernel_rfl)).trans q22
        refine wpOp_val rfl (wanted_none rfl) ?_ (fK (.bool (decide (r < 0))) fW (Below.refl _ _) (by rw [hT]; exact rfl))
        clear fK hE hF
        go_simp
      refine stepsAll_cons (k := 24) ?_ ?_
      · intro fa fx fW hF fB hE K fK
        have q23 : fx 23 = .bool (decide (r < 0)) := by have q := hE ⟨23, .data⟩ (by simp) rfl; rw [hT] at q; exact q
        have ev29 : fa.tmps[29]?.getD undef = .bool (decide (r < 0)) := (hF.ev 23 29 (by kernel_rfl)).trans q23
        refine wpOp_val rfl (wanted_none rfl) ?_ (fK (.bool (decide (r < 0))) fW (Below.refl _ _) (by rw [hT]; exact rfl))
        clear fK hE hF
        go_simp
      exact stepsAll_nil
    intro fa fx fW hF fB hx
    have q24 : fx 24 = .bool (decide (r < 0)) := by have q := hx 24 (by decide); rw [hT] at q; exact q
    have ev5 : fa.tmps[5]?.getD undef = .bool (decide (r < 0)) := (hF.ev 24 5 (by kernel_rfl)).trans q24
    rw [hF.eq]
    clear hF hx
    simp only [putAll, Act.put, List.setIfInBounds_toArray, List.set_cons_zero, List.set_cons_succ, q24]
    go_wp2
    all_goals
      go_ret
      exact ⟨rfl, fB⟩
theorem rds_block {w : World} {sz n c : Nat} {ad : Addr} {cs : List Value} (h : Rds w sz (some ad) n c cs) (hn : 0 < cs.length) : ad.block < w.heap.size := by
  have h1 := h.cell ad rfl 0 _ (List.getElem?_eq_getElem hn)
  exact World.block_lt_of_cell? w _ h1
set_option maxRecDepth 100000 in
set_option maxHeartbeats 4000000 in
theorem hnext (A B C : Option Addr) (n c d m f : Nat) (xs : List Int) (l : List Cl) (order : List Nat) (w : World) (hr : Rds w 1 A n c (nums .i64 xs)) (hr2 : Rds w 2 B n d (cls l)) (hr3 : Rds w 1 C m f (numsN order))
    (ho : ∀ i ∈ order, i < n) (hx : ∀ x ∈ xs, I64 x) (hw : ∀ q ∈ l, I64 q.weight) (hm : m ≤ 1000) :
    Calls Try.prog 19 #[.slice B n d, .slice A n c, .slice C m f] w fun e w' => e = .returned (.int .i64 (bestI (nextC l xs order))) ∧ Below w.heap.size w w' := by
  have eg : ∀ args w, (callFunc 29 args).run Try.prog w = .ok (.enter 29 args) w := Go.Proofs.enters_of Try.func29 (by kernel_rfl) rfl
  have HM : Hid (order.length = m) := by have := hr3.len; simp [numsN] at this; exact this
  have hxl : xs.length = n := by have := hr.len; rw [nums_length] at this; omega
  have hll := cls_len hr2
  have HO := Lib.hid ho
  have HX := Lib.hid hx
  have HW := Lib.hid hw
  clear ho hx hw
  go_enter Try.func19, Try.ntmps19
  go_wp2
  obtain ⟨W0, hW0⟩ : ∃ W0, W0 = ((w.alloc (.cells #[.slice B n d] 22)).alloc (.cells #[.slice A n c] 25)).alloc (.cells #[.int .i64 (-1)] 3) := ⟨_, rfl⟩
  have hB0 : Below w.heap.size w W0 := by rw [hW0]; exact below_al (below_al (below_al (Below.refl _ _) _) _) _
  have b1 : Box W0 w.heap.size 0 (.slice B n d) := by rw [hW0]; constructor <;> go_simp
  have b2 : Box W0 (w.heap.size + 1) 0 (.slice A n c) := by rw [hW0]; constructor <;> go_simp
  have b3 : Box W0 (w.heap.size + 1 + 1) 0 (.int .i64 (-1)) := by rw [hW0]; constructor <;> go_simp
  rw [← hW0]
  obtain ⟨bl, hbl⟩ : ∃ bl, bl = w.heap.size := ⟨_, rfl⟩
  obtain ⟨bx, hbx⟩ : ∃ bx, bx = w.heap.size + 1 := ⟨_, rfl⟩
  obtain ⟨bb, hbb⟩ : ∃ bb, bb = w.heap.size + 1 + 1 := ⟨_, rfl⟩
  rw [show Value.pointer (some ⟨w.heap.size, 0, none⟩) = Value.pointer (some ⟨bl, 0, none⟩) by rw [hbl], show Value.pointer (some ⟨w.heap.size + 1, 0, none⟩) = Value.pointer (some ⟨bx, 0, none⟩) by rw [hbx], show Value.pointer (some ⟨w.heap.size + 1 + 1, 0, none⟩) = Value.pointer (some ⟨bb, 0, none⟩) by rw [hbb]]
  rw [← hbl] at b1
  rw [← hbx] at b2
  rw [← hbb] at b3
  have n1 : ¬ bl = bb := by omega
  have n2 : ¬ bx = bb := by omega
  have hwb : w.heap.size ≤ bb := by omega
  clear hbl hbx hbb hW0
  go_loopw [14] (fun i wr => ∃ k : Nat, k ≤ m ∧ i = .int .i64 k ∧ ∃ best : Option Nat, Hid (best = nextC l xs (order.take k)) ∧ Box wr bb 0 (.int .i64 (bestI best)) ∧ Chg (fun q => q = bb) W0 wr) (fun i _ => m - (intOf i).toNat)
  case atStart => exact ⟨0, Nat.zero_le _, rfl, none, rfl, b3, Chg.refl _ _⟩
  case round =>
    obtain ⟨k, hk, rfl, best, HBe, hbx', hch⟩ := hrel
    by_cases hlt : k < m
    · have hkx : k < order.length := by rw [HM.out]; exact hlt
      have hstep : nextC l xs (order.take (k + 1)) = stepC l xs best order[k] := by rw [List.take_succ_eq_append_getElem hkx, nextC_snoc, ← HBe.out]
      have hin := HO.out order[k] (List.getElem_mem hkx)
      have hbn : ∀ b, best = some b → b < n := by
        intro b hb
        rw [HBe.out] at hb
        exact HO.out b (List.mem_of_mem_take (nextC_mem l xs _ b hb).1)
      obtain ⟨cd, rfl⟩ := hr3.some_ (by omega)
      obtain ⟨ad, rfl⟩ := hr.some_ (by omega)
      obtain ⟨bd, rfl⟩ := hr2.some_ (by omega)
      have q1 := rds_block hr (by rw [hr.len]; omega)
      have q2 := rds_block hr2 (by rw [hr2.len]; omega)
      have q3 := rds_block hr3 (by rw [hr3.len]; omega)
      have r1 := hch.rds (hr.below hB0) (fun a e => by cases e; omega)
      have r2 := hch.rds (hr2.below hB0) (fun a e => by cases e; omega)
      have r3 := hch.rds (hr3.below hB0) (fun a e => by cases e; omega)
      have k1 := (b1.keep hch n1).cell
      have k2 := (b2.keep hch n2).cell
      have hco : wr.cell? (cd.add k) = some (.int .i64 ((order[k] : Nat) : Int)) := r3.cell cd rfl k _ (by simp [numsN, hkx])
      obtain ⟨i, hi⟩ : ∃ i, order[k] = i := ⟨_, rfl⟩
      rw [hi] at hstep hin hco
      have hc1 := int_read r1 (i := i) (by omega)
      have hc2 := (cl_read r2 i _ (getDc_of (by omega))).2
      have HSTEP := Lib.hid hstep
      have HBN := Lib.hid hbn
      have HHU : Hid (hungryC l xs i = decide (xs.getD i 0 < (l.getD i default).demand)) := rfl
      have k3 := hbx'.cell
      have k3f := hbx'.free
      have HBT : Hid (∀ W, Below wr.heap.size wr W → Calls Try.prog 29 #[.int .i64 i, .pointer (some ⟨bb, 0, none⟩), .pointer (some ⟨bx, 0, none⟩), .pointer (some ⟨bl, 0, none⟩)] W fun e w' => e = .returned (.bool (betterV l xs i best)) ∧ Below W.heap.size W w') := by
        intro W hW
        exact hbetter bb bx bl best ad bd n c d xs l i W (cell_below hW k3) (cell_below hW k2) (cell_below hW k1) (r1.below hW) (r2.below hW) hin hbn HX.out HW.out
      have hbp : Hid (∀ W, Below wr.heap.size wr W → Box W bb 0 (.int .i64 (bestI best))) := fun W hW => hbx'.below hW
      have hin2 : (i : Int) < n := by omega
      clear hstep hbn HBN q1 q2 q3 r1 r2 r3 hi hr hr2 hr3 b1 b2 b3
      generalize xs.getD i 0 = xi at *
      generalize (l.getD i default).demand = di at *
      by_cases hh : xi < di
      · have hhd : decide (xi < di) = true := by simp [hh]
        have HHT : Hid (hungryC l xs i = true) := by show _ = _; rw [HHU.out]; exact hhd
        obtain ⟨v, hv⟩ : ∃ v, (betterV l xs i best) = v := ⟨_, rfl⟩
        rw [hv] at HBT
        have HV := Lib.hid hv
        clear hv
        go_wp2
        obtain ⟨T, hT⟩ : ∃ T : Nat → Fact, ∀ t_, T t_ = ([Fact.eq (.slice (some ad) n c), Fact.eq (.int .i64 i), Fact.eq (.pointer (some (ad.add i))), Fact.eq (.int .i64 xi), Fact.eq (.slice (some bd) n d), Fact.eq (.int .i64 i), Fact.eq (.pointer (some (bd.add (i * 2)))), Fact.eq (.pointer (some ⟨(bd.add (i * 2)).block, (bd.add (i * 2)).off + 1, none⟩)), Fact.eq (.int .i64 di), Fact.eq (.bool true), Fact.eq (.bool true), Fact.eq (.func (.func 29) #[] #[.pointer (some ⟨bb, 0, none⟩), .pointer (some ⟨bx, 0, none⟩), .pointer (some ⟨bl, 0, none⟩)]), Fact.eq (.int .i64 i), Fact.eq (.bool v), Fact.eq (.bool v)] : List (Fact)).getD t_ Fact.any := ⟨_, fun _ => rfl⟩
        refine region_tab [(0, 18), (1, 19), (2, 20), (3, 21), (4, 22), (5, 23), (6, 24), (7, 25), (8, 26), (9, 27), (10, 28), (11, 29), (12, 30), (13, 31), (14, 32)] T (by kernel_rfl) (by kernel_rfl) (by kernel_rfl) (by kernel_rfl) (by kernel_rfl) ?_ ?_
        · skip
          refine stepsAll_cons (k := 0) ?_ ?_
          · intro fa fx fW hF fB hE K fK
            have ev4 : fa.tmps[4]?.getD undef = .pointer (some ⟨bx, 0, none⟩) := hF.eo 4 (by kernel_rfl)
            have hk2 := cell_below fB k2
            refine wpOp_val rfl (wanted_none rfl) ?_ (fK (.slice (some ad) n c) fW (Below.refl _ _) (by rw [hT]; exact rfl))
            clear fK hE hF
            go_simp
          refine stepsAll_cons (k := 1) ?_ ?_
          · intro fa fx fW hF fB hE K fK
            have ev10 : fa.tmps[10]?.getD undef = .int .i64 i := hF.eo 10 (by kernel_rfl)
            refine wpOp_val rfl (wanted_none rfl) ?_ (fK (.int .i64 i) fW (Below.refl _ _) (by rw [hT]; exact rfl))
            clear fK hE hF
            go_simp
          refine stepsAll_cons (k := 2) ?_ ?_
          · intro fa fx fW hF fB hE K fK
            have q0 : fx 0 = .slice (some ad) n c := by have q := hE ⟨0, .data⟩ (by simp) rfl; rw [hT] at q; exact q
            have q1 : fx 1 = .int .i64 i := by have q := hE ⟨1, .data⟩ (by simp) rfl; rw [hT] at q; exact q
            have ev18 : fa.tmps[18]?.getD undef = .slice (some ad) n c := (hF.ev 0 18 (by kernel_rfl)).trans q0
            have ev19 : fa.tmps[19]?.getD undef = .int .i64 i := (hF.ev 1 19 (by kernel_rfl)).trans q1
            refine wpOp_val rfl (wanted_none rfl) ?_ (fK (.pointer (some (ad.add i))) fW (Below.refl _ _) (by rw [hT]; exact rfl))
            clear fK hE hF
            go_simp
          refine stepsAll_cons (k := 3) ?_ ?_
          · intro fa fx fW hF fB hE K fK
            have q2 : fx 2 = .pointer (some (ad.add i)) := by have q := hE ⟨2, .data⟩ (by simp) rfl; rw [hT] at q; exact q
            have ev20 : fa.tmps[20]?.getD undef = .pointer (some (ad.add i)) := (hF.ev 2 20 (by kernel_rfl)).trans q2
            have hk3 := cell_below fB hc1
            refine wpOp_val rfl (wanted_none rfl) ?_ (fK (.int .i64 xi) fW (Below.refl _ _) (by rw [hT]; exact rfl))
            clear fK hE hF
            go_simp
          refine stepsAll_cons (k := 4) ?_ ?_
          · intro fa fx fW hF fB hE K fK
            have ev3 : fa.tmps[3]?.getD undef = .pointer (some ⟨bl, 0, none⟩) := hF.eo 3 (by kernel_rfl)
            have hk1 := cell_below fB k1
            refine wpOp_val rfl (wanted_none rfl) ?_ (fK (.slice (some bd) n d) fW (Below.refl _ _) (by rw [hT]; exact rfl))
            clear fK hE hF
            go_simp
          refine stepsAll_cons (k := 5) ?_ ?_
          · intro fa fx fW hF fB hE K fK
            have ev10 : fa.tmps[10]?.getD undef = .int .i64 i := hF.eo 10 (by kernel_rfl)
            refine wpOp_val rfl (wanted_none rfl) ?_ (fK (.int .i64 i) fW (Below.refl _ _) (by rw [hT]; exact rfl))
            clear fK hE hF
            go_simp
          refine stepsAll_cons (k := 6) ?_ ?_
          · intro fa fx fW hF fB hE K fK
            have q4 : fx 4 = .slice (some bd) n d := by have q := hE ⟨4, .data⟩ (by simp) rfl; rw [hT] at q; exact q
            have q5 : fx 5 = .int .i64 i := by have q := hE ⟨5, .data⟩ (by simp) rfl; rw [hT] at q; exact q
            have ev22 : fa.tmps[22]?.getD undef = .slice (some bd) n d := (hF.ev 4 22 (by kernel_rfl)).trans q4
            have ev23 : fa.tmps[23]?.getD undef = .int .i64 i := (hF.ev 5 23 (by kernel_rfl)).trans q5
            refine wpOp_val rfl (wanted_none rfl) ?_ (fK (.pointer (some (bd.add (i * 2)))) fW (Below.refl _ _) (by rw [hT]; exact rfl))
            clear fK hE hF
            go_simp
          refine stepsAll_cons (k := 7) ?_ ?_
          · intro fa fx fW hF fB hE K fK
            have q6 : fx 6 = .pointer (some (bd.add (i * 2))) := by have q := hE ⟨6, .data⟩ (by simp) rfl; rw [hT] at q; exact q
            have ev24 : fa.tmps[24]?.getD undef = .pointer (some (bd.add (i * 2))) := (hF.ev 6 24 (by kernel_rfl)).trans q6
            refine wpOp_val rfl (wanted_none rfl) ?_ (fK (.pointer (some ⟨(bd.add (i * 2)).block, (bd.add (i * 2)).off + 1, none⟩)) fW (Below.refl _ _) (by rw [hT]; exact rfl))
            clear fK hE hF
            go_simp
          refine stepsAll_cons (k := 8) ?_ ?_
          · intro fa fx fW hF fB hE K fK
            have q7 : fx 7 = .pointer (some ⟨(bd.add (i * 2)).block, (bd.add (i * 2)).off + 1, none⟩) := by have q := hE ⟨7, .data⟩ (by simp) rfl; rw [hT] at q; exact q
            have ev25 : fa.tmps[25]?.getD undef = .pointer (some ⟨(bd.add (i * 2)).block, (bd.add (i * 2)).off + 1, none⟩) := (hF.ev 7 25 (by kernel_rfl)).trans q7
            have hk4 := cell_below fB hc2
            refine wpOp_val rfl (wanted_none rfl) ?_ (fK (.int .i64 di) fW (Below.refl _ _) (by rw [hT]; exact rfl))
            clear fK hE hF
            go_simp
          refine stepsAll_cons (k := 9) ?_ ?_
          · intro fa fx fW hF fB hE K fK
            have q3 : fx 3 = .int .i64 xi := by have q := hE ⟨3, .data⟩ (by simp) rfl; rw [hT] at q; exact q
            have q8 : fx 8 = .int .i64 di := by have q := hE ⟨8, .data⟩ (by simp) rfl; rw [hT] at q; exact q
            have ev21 : fa.tmps[21]?.getD undef = .int .i64 xi := (hF.ev 3 21 (by kernel_rfl)).trans q3
            have ev26 : fa.tmps[26]?.getD undef = .int .i64 di := (hF.ev 8 26 (by kernel_rfl)).trans q8
            refine wpOp_val rfl (wanted_none rfl) ?_ (fK (.bool true) fW (Below.refl _ _) (by rw [hT]; exact rfl))
            clear fK hE hF
            go_simp
          refine stepsAll_cons (k := 10) ?_ ?_
          · intro fa fx fW hF fB hE K fK
            have q9 : fx 9 = .bool true := by have q := hE ⟨9, .data⟩ (by simp) rfl; rw [hT] at q; exact q
            have ev27 : fa.tmps[27]?.getD undef = .bool true := (hF.ev 9 27 (by kernel_rfl)).trans q9
            refine wpOp_val rfl (wanted_none rfl) ?_ (fK (.bool true) fW (Below.refl _ _) (by rw [hT]; exact rfl))
            clear fK hE hF
            go_simp
          refine stepsAll_cons (k := 11) ?_ ?_
          · intro fa fx fW hF fB hE K fK
            have q10 : fx 10 = .bool true := by have q := hE ⟨10, .guard⟩ (by simp) rfl; rw [hT] at q; exact q
            have ev8 : fa.tmps[8]?.getD undef = .func (.func 29) #[] #[.pointer (some ⟨bb, 0, none⟩), .pointer (some ⟨bx, 0, none⟩), .pointer (some ⟨bl, 0, none⟩)] := hF.eo 8 (by kernel_rfl)
            refine wpOp_val rfl (wanted_yes rfl (hF.yes 10 28 (by kernel_rfl) true q10)) ?_ (fK (.func (.func 29) #[] #[.pointer (some ⟨bb, 0, none⟩), .pointer (some ⟨bx, 0, none⟩), .pointer (some ⟨bl, 0, none⟩)]) fW (Below.refl _ _) (by rw [hT]; exact rfl))
            clear fK hE hF
            go_simp
          refine stepsAll_cons (k := 12) ?_ ?_
          · intro fa fx fW hF fB hE K fK
            have q10 : fx 10 = .bool true := by have q := hE ⟨10, .guard⟩ (by simp) rfl; rw [hT] at q; exact q
            have ev10 : fa.tmps[10]?.getD undef = .int .i64 i := hF.eo 10 (by kernel_rfl)
            refine wpOp_val rfl (wanted_yes rfl (hF.yes 10 28 (by kernel_rfl) true q10)) ?_ (fK (.int .i64 i) fW (Below.refl _ _) (by rw [hT]; exact rfl))
            clear fK hE hF
            go_simp
          refine stepsAll_cons (k := 13) ?_ ?_
          · intro fa fx fW hF fB hE K fK
            have q10 : fx 10 = .bool true := by have q := hE ⟨10, .chain⟩ (by simp) rfl; rw [hT] at q; exact q
            have q11 : fx 11 = .func (.func 29) #[] #[.pointer (some ⟨bb, 0, none⟩), .pointer (some ⟨bx, 0, none⟩), .pointer (some ⟨bl, 0, none⟩)] := by have q := hE ⟨11, .data⟩ (by simp) rfl; rw [hT] at q; exact q
            have q12 : fx 12 = .int .i64 i := by have q := hE ⟨12, .data⟩ (by simp) rfl; rw [hT] at q; exact q
            have ev29 : fa.tmps[29]?.getD undef = .func (.func 29) #[] #[.pointer (some ⟨bb, 0, none⟩), .pointer (some ⟨bx, 0, none⟩), .pointer (some ⟨bl, 0, none⟩)] := (hF.ev 11 29 (by kernel_rfl)).trans q11
            have ev30 : fa.tmps[30]?.getD undef = .int .i64 i := (hF.ev 12 30 (by kernel_rfl)).trans q12
            refine wpOp_call rfl (wanted_yes rfl (hF.yes 10 28 (by kernel_rfl) true q10)) (by go_simp; exact ⟨rfl, rfl⟩) ?_
            refine (HBT.out fW fB).mono ?_
            rintro e w' ⟨rfl, hbb⟩
            exact ⟨_, rfl, fK (.bool v) (w') (hbb) (by rw [hT]; exact rfl)⟩
          refine stepsAll_cons (k := 14) ?_ ?_
          · intro fa fx fW hF fB hE K fK
            have q10 : fx 10 = .bool true := by have q := hE ⟨10, .data⟩ (by simp) rfl; rw [hT] at q; exact q
            have q13 : fx 13 = .bool v := by have q := hE ⟨13, .data⟩ (by simp) rfl; rw [hT] at q; exact q
            have ev28 : fa.tmps[28]?.getD undef = .bool true := (hF.ev 10 28 (by kernel_rfl)).trans q10
            have ev31 : fa.tmps[31]?.getD undef = .bool v := (hF.ev 13 31 (by kernel_rfl)).trans q13
            refine wpOp_val rfl (wanted_none rfl) ?_ (fK (.bool v) fW (Below.refl _ _) (by rw [hT]; exact rfl))
            clear fK hE hF
            go_simp
          exact stepsAll_nil
        intro fa fx fW hF fB hx
        have q14 : fx 14 = .bool v := by have q := hx 14 (by decide); rw [hT] at q; exact q
        have ev32 : fa.tmps[32]?.getD undef = .bool v := (hF.ev 14 32 (by kernel_rfl)).trans q14
        rw [hF.eq]
        clear hF hx
        simp only [putAll, Act.put, List.setIfInBounds_toArray, List.set_cons_zero, List.set_cons_succ, q14]
        have y3 := hbp.out fW fB
        have y3c := y3.cell
        have y3f := y3.free
        have hchW := hch.trans (Chg.of_below fB)
        cases v with
        | true =>
          have hnew : Hid (some i = nextC l xs (order.take (k + 1))) := by
            show _ = _
            rw [HSTEP.out]
            unfold stepC
            rw [if_pos HHT.out]
            cases best with
            | none => rfl
            | some b =>
              have := HV.out
              simp only [betterV] at this
              simp only [this]
              rfl
          have hset := y3.set (.int .i64 (i : Int))
          have hch2 := hchW.setCell bb 0 (.int .i64 (i : Int)) rfl
          go_wp2
          go_roundw
          case rel => exact ⟨k + 1, by omega, by go_num, some i, hnew, hset, hch2⟩
          case measure => simp [intOf]; omega
        | false =>
          have hnew : Hid (best = nextC l xs (order.take (k + 1))) := by
            show _ = _
            rw [HSTEP.out]
            unfold stepC
            rw [if_pos HHT.out]
            cases best with
            | none => have := HV.out; simp [betterV] at this
            | some b =>
              have := HV.out
              simp only [betterV] at this
              simp only [this]
              rfl
          go_wp2
          go_roundw
          case rel => exact ⟨k + 1, by omega, by go_num, best, hnew, y3, hchW⟩
          case measure => simp [intOf]; omega
      · have hhd : decide (xi < di) = false := by simp [hh]
        have hnew : Hid (best = nextC l xs (order.take (k + 1))) := by
          show _ = _
          rw [HSTEP.out]
          unfold stepC
          rw [show hungryC l xs i = false by rw [HHU.out]; exact hhd]
          rfl
        go_wp2
        obtain ⟨T, hT⟩ : ∃ T : Nat → Fact, ∀ t_, T t_ = ([Fact.eq (.slice (some ad) n c), Fact.eq (.int .i64 i), Fact.eq (.pointer (some (ad.add i))), Fact.eq (.int .i64 xi), Fact.eq (.slice (some bd) n d), Fact.eq (.int .i64 i), Fact.eq (.pointer (some (bd.add (i * 2)))), Fact.eq (.pointer (some ⟨(bd.add (i * 2)).block, (bd.add (i * 2)).off + 1, none⟩)), Fact.eq (.int .i64 di), Fact.eq (.bool false), Fact.eq (.bool false), Fact.eq (undef), Fact.eq (undef), Fact.eq (undef), Fact.eq (.bool false)] : List (Fact)).getD t_ Fact.any := ⟨_, fun _ => rfl⟩
        refine region_tab [(0, 18), (1, 19), (2, 20), (3, 21), (4, 22), (5, 23), (6, 24), (7, 25), (8, 26), (9, 27), (10, 28), (11, 29), (12, 30), (13, 31), (14, 32)] T (by kernel_rfl) (by kernel_rfl) (by kernel_rfl) (by kernel_rfl) (by kernel_rfl) ?_ ?_
        · skip
          refine stepsAll_cons (k := 0) ?_ ?_
          · intro fa fx fW hF fB hE K fK
            have ev4 : fa.tmps[4]?.getD undef = .pointer (some ⟨bx, 0, none⟩) := hF.eo 4 (by kernel_rfl)
            have hk2 := cell_below fB k2
            refine wpOp_val rfl (wanted_none rfl) ?_ (fK (.slice (some ad) n c) fW (Below.refl _ _) (by rw [hT]; exact rfl))
            clear fK hE hF
            go_simp
          refine stepsAll_cons (k := 1) ?_ ?_
          · intro fa fx fW hF fB hE K fK
            have ev10 : fa.tmps[10]?.getD undef = .int .i64 i := hF.eo 10 (by kernel_rfl)
            refine wpOp_val rfl (wanted_none rfl) ?_ (fK (.int .i64 i) fW (Below.refl _ _) (by rw [hT]; exact rfl))
            clear fK hE hF
            go_simp
          refine stepsAll_cons (k := 2) ?_ ?_
          · intro fa fx fW hF fB hE K fK
            have q0 : fx 0 = .slice (some ad) n c := by have q := hE ⟨0, .data⟩ (by simp) rfl; rw [hT] at q; exact q
            have q1 : fx 1 = .int .i64 i := by have q := hE ⟨1, .data⟩ (by simp) rfl; rw [hT] at q; exact q
            have ev18 : fa.tmps[18]?.getD undef = .slice (some ad) n c := (hF.ev 0 18 (by kernel_rfl)).trans q0
            have ev19 : fa.tmps[19]?.getD undef = .int .i64 i := (hF.ev 1 19 (by kernel_rfl)).trans q1
            refine wpOp_val rfl (wanted_none rfl) ?_ (fK (.pointer (some (ad.add i))) fW (Below.refl _ _) (by rw [hT]; exact rfl))
            clear fK hE hF
            go_simp
          refine stepsAll_cons (k := 3) ?_ ?_
          · intro fa fx fW hF fB hE K fK
            have q2 : fx 2 = .pointer (some (ad.add i)) := by have q := hE ⟨2, .data⟩ (by simp) rfl; rw [hT] at q; exact q
            have ev20 : fa.tmps[20]?.getD undef = .pointer (some (ad.add i)) := (hF.ev 2 20 (by kernel_rfl)).trans q2
            have hk3 := cell_below fB hc1
            refine wpOp_val rfl (wanted_none rfl) ?_ (fK (.int .i64 xi) fW (Below.refl _ _) (by rw [hT]; exact rfl))
            clear fK hE hF
            go_simp
          refine stepsAll_cons (k := 4) ?_ ?_
          · intro fa fx fW hF fB hE K fK
            have ev3 : fa.tmps[3]?.getD undef = .pointer (some ⟨bl, 0, none⟩) := hF.eo 3 (by kernel_rfl)
            have hk1 := cell_below fB k1
            refine wpOp_val rfl (wanted_none rfl) ?_ (fK (.slice (some bd) n d) fW (Below.refl _ _) (by rw [hT]; exact rfl))
            clear fK hE hF
            go_simp
          refine stepsAll_cons (k := 5) ?_ ?_
          · intro fa fx fW hF fB hE K fK
            have ev10 : fa.tmps[10]?.getD undef = .int .i64 i := hF.eo 10 (by kernel_rfl)
            refine wpOp_val rfl (wanted_none rfl) ?_ (fK (.int .i64 i) fW (Below.refl _ _) (by rw [hT]; exact rfl))
            clear fK hE hF
            go_simp
          refine stepsAll_cons (k := 6) ?_ ?_
          · intro fa fx fW hF fB hE K fK
            have q4 : fx 4 = .slice (some bd) n d := by have q := hE ⟨4, .data⟩ (by simp) rfl; rw [hT] at q; exact q
            have q5 : fx 5 = .int .i64 i := by have q := hE ⟨5, .data⟩ (by simp) rfl; rw [hT] at q; exact q
            have ev22 : fa.tmps[22]?.getD undef = .slice (some bd) n d := (hF.ev 4 22 (by kernel_rfl)).trans q4
            have ev23 : fa.tmps[23]?.getD undef = .int .i64 i := (hF.ev 5 23 (by kernel_rfl)).trans q5
            refine wpOp_val rfl (wanted_none rfl) ?_ (fK (.pointer (some (bd.add (i * 2)))) fW (Below.refl _ _) (by rw [hT]; exact rfl))
            clear fK hE hF
            go_simp
          refine stepsAll_cons (k := 7) ?_ ?_
          · intro fa fx fW hF fB hE K fK
            have q6 : fx 6 = .pointer (some (bd.add (i * 2))) := by have q := hE ⟨6, .data⟩ (by simp) rfl; rw [hT] at q; exact q
            have ev24 : fa.tmps[24]?.getD undef = .pointer (some (bd.add (i * 2))) := (hF.ev 6 24 (by kernel_rfl)).trans q6
            refine wpOp_val rfl (wanted_none rfl) ?_ (fK (.pointer (some ⟨(bd.add (i * 2)).block, (bd.add (i * 2)).off + 1, none⟩)) fW (Below.refl _ _) (by rw [hT]; exact rfl))
            clear fK hE hF
            go_simp
          refine stepsAll_cons (k := 8) ?_ ?_
          · intro fa fx fW hF fB hE K fK
            have q7 : fx 7 = .pointer (some ⟨(bd.add (i * 2)).block, (bd.add (i * 2)).off + 1, none⟩) := by have q := hE ⟨7, .data⟩ (by simp) rfl; rw [hT] at q; exact q
            have ev25 : fa.tmps[25]?.getD undef = .pointer (some ⟨(bd.add (i * 2)).block, (bd.add (i * 2)).off + 1, none⟩) := (hF.ev 7 25 (by kernel_rfl)).trans q7
            have hk4 := cell_below fB hc2
            refine wpOp_val rfl (wanted_none rfl) ?_ (fK (.int .i64 di) fW (Below.refl _ _) (by rw [hT]; exact rfl))
            clear fK hE hF
            go_simp
          refine stepsAll_cons (k := 9) ?_ ?_
          · intro fa fx fW hF fB hE K fK
            have q3 : fx 3 = .int .i64 xi := by have q := hE ⟨3, .data⟩ (by simp) rfl; rw [hT] at q; exact q
            have q8 : fx 8 = .int .i64 di := by have q := hE ⟨8, .data⟩ (by simp) rfl; rw [hT] at q; exact q
            have ev21 : fa.tmps[21]?.getD undef = .int .i64 xi := (hF.ev 3 21 (by kernel_rfl)).trans q3
            have ev26 : fa.tmps[26]?.getD undef = .int .i64 di := (hF.ev 8 26 (by kernel_rfl)).trans q8
            refine wpOp_val rfl (wanted_none rfl) ?_ (fK (.bool false) fW (Below.refl _ _) (by rw [hT]; exact rfl))
            clear fK hE hF
            go_simp
          refine stepsAll_cons (k := 10) ?_ ?_
          · intro fa fx fW hF fB hE K fK
            have q9 : fx 9 = .bool false := by have q := hE ⟨9, .data⟩ (by simp) rfl; rw [hT] at q; exact q
            have ev27 : fa.tmps[27]?.getD undef = .bool false := (hF.ev 9 27 (by kernel_rfl)).trans q9
            refine wpOp_val rfl (wanted_none rfl) ?_ (fK (.bool false) fW (Below.refl _ _) (by rw [hT]; exact rfl))
            clear fK hE hF
            go_simp
          refine stepsAll_cons (k := 11) ?_ ?_
          · intro fa fx fW hF fB hE K fK
            have q10 : fx 10 = .bool false := by have q := hE ⟨10, .guard⟩ (by simp) rfl; rw [hT] at q; exact q
            have ev8 : fa.tmps[8]?.getD undef = .func (.func 29) #[] #[.pointer (some ⟨bb, 0, none⟩), .pointer (some ⟨bx, 0, none⟩), .pointer (some ⟨bl, 0, none⟩)] := hF.eo 8 (by kernel_rfl)
            exact wpOp_skip rfl (by simp [Region.wanted, hF.yes 10 28 (by kernel_rfl) false q10]) (fK undef fW (Below.refl _ _) (by rw [hT]; exact rfl))
          refine stepsAll_cons (k := 12) ?_ ?_
          · intro fa fx fW hF fB hE K fK
            have q10 : fx 10 = .bool false := by have q := hE ⟨10, .guard⟩ (by simp) rfl; rw [hT] at q; exact q
            have ev10 : fa.tmps[10]?.getD undef = .int .i64 i := hF.eo 10 (by kernel_rfl)
            exact wpOp_skip rfl (by simp [Region.wanted, hF.yes 10 28 (by kernel_rfl) false q10]) (fK undef fW (Below.refl _ _) (by rw [hT]; exact rfl))
          refine stepsAll_cons (k := 13) ?_ ?_
          · intro fa fx fW hF fB hE K fK
            have q10 : fx 10 = .bool false := by have q := hE ⟨10, .chain⟩ (by simp) rfl; rw [hT] at q; exact q
            have q11 : fx 11 = undef := by have q := hE ⟨11, .data⟩ (by simp) rfl; rw [hT] at q; exact q
            have q12 : fx 12 = undef := by have q := hE ⟨12, .data⟩ (by simp) rfl; rw [hT] at q; exact q
            have ev29 : fa.tmps[29]?.getD undef = undef := (hF.ev 11 29 (by kernel_rfl)).trans q11
            have ev30 : fa.tmps[30]?.getD undef = undef := (hF.ev 12 30 (by kernel_rfl)).trans q12
            exact wpOp_skip rfl (by simp [Region.wanted, hF.yes 10 28 (by kernel_rfl) false q10]) (fK undef fW (Below.refl _ _) (by rw [hT]; exact rfl))
          refine stepsAll_cons (k := 14) ?_ ?_
          · intro fa fx fW hF fB hE K fK
            have q10 : fx 10 = .bool false := by have q := hE ⟨10, .data⟩ (by simp) rfl; rw [hT] at q; exact q
            have q13 : fx 13 = undef := by have q := hE ⟨13, .data⟩ (by simp) rfl; rw [hT] at q; exact q
            have ev28 : fa.tmps[28]?.getD undef = .bool false := (hF.ev 10 28 (by kernel_rfl)).trans q10
            have ev31 : fa.tmps[31]?.getD undef = undef := (hF.ev 13 31 (by kernel_rfl)).trans q13
            refine wpOp_val rfl (wanted_none rfl) ?_ (fK (.bool false) fW (Below.refl _ _) (by rw [hT]; exact rfl))
            clear fK hE hF
            go_simp
          exact stepsAll_nil
        intro fa fx fW hF fB hx
        have q14 : fx 14 = .bool false := by have q := hx 14 (by decide); rw [hT] at q; exact q
        have ev32 : fa.tmps[32]?.getD undef = .bool false := (hF.ev 14 32 (by kernel_rfl)).trans q14
        rw [hF.eq]
        clear hF hx
        simp only [putAll, Act.put, List.setIfInBounds_toArray, List.set_cons_zero, List.set_cons_succ, q14]
        have y3 := hbp.out fW fB
        have hchW := hch.trans (Chg.of_below fB)
        go_wp2
        go_roundw
        case rel => exact ⟨k + 1, by omega, by go_num, best, hnew, y3, hchW⟩
        case measure => simp [intOf]; omega
    · obtain rfl : k = m := by omega
      rw [List.take_of_length_le (by rw [HM.out]; exact Nat.le_refl _)] at HBe
      have k3 := hbx'.cell
      have hend := hch.toBelow hB0 (Nat.le_trans hB0.size (Nat.le_refl _)) (fun q e => by omega)
      go_wp2
      go_ret
      exact ⟨ret_int (by rw [HBe.out]), hend⟩
end Go.Proofs.Ytmacpgjmhaoneaa
