/- Package num: how products stand, quotients, the greatest divisor. -/
import Derived.Test.YtnacfpkagomfaaaNumW
import Derived.Test.YtnacfpkagomfaaaRegionJ
namespace Go.Proofs.Ytnacfpkagomfaaa
open Go.RowKit
set_option maxHeartbeats 400000 in
theorem nnan (x : Nat) (w : World) : Calls Try.prog 63 #[.int .u64 x] w fun e w' => e = .returned (.bool false) ∧ w = w' := by
  go_enter Try.func63, Try.ntmps63
  go_wp2
  go_ret
  exact ⟨rfl, rfl⟩
set_option maxHeartbeats 400000 in
theorem ncompare (x y : Nat) (w : World) : Calls Try.prog 62 #[.int .u64 x, .int .u64 y] w fun e w' => e = .returned (.int .i64 (cmpN x y)) ∧ w = w' := by
  obtain ⟨r, hr⟩ : ∃ r, cmpN x y = r := ⟨_, rfl⟩
  rw [hr]
  rcases Nat.lt_trichotomy x y with h | h | h
  · have e : r = -1 := by rw [← hr]; unfold cmpN; rw [if_pos h]
    subst e
    clear hr
    go_enter Try.func62, Try.ntmps62
    go_wp2_with (go_at_call 63; refine (nnan _ _).mono ?_; rintro e w1 ⟨rfl, rfl⟩)
    go_ret
    exact ⟨rfl, rfl⟩
  · have e : r = 0 := by rw [← hr]; unfold cmpN; rw [if_neg (by omega), if_neg (by omega)]
    subst e
    clear hr
    go_enter Try.func62, Try.ntmps62
    go_wp2_with (go_at_call 63; refine (nnan _ _).mono ?_; rintro e w1 ⟨rfl, rfl⟩)
    go_ret
    exact ⟨rfl, rfl⟩
  · have e : r = 1 := by rw [← hr]; unfold cmpN; rw [if_neg (by omega), if_pos h]
    have h2 : ¬ x < y := by omega
    subst e
    clear hr
    go_enter Try.func62, Try.ntmps62
    go_wp2_with (go_at_call 63; refine (nnan _ _).mono ?_; rintro e w1 ⟨rfl, rfl⟩)
    go_ret
    exact ⟨rfl, rfl⟩
/-- The first that is not nought. -/
def orV : List Int → Int
  | [] => 0
  | x :: l => if x = 0 then orV l else x
set_option maxHeartbeats 1000000 in
theorem nor (A : Option Addr) (c : Nat) (x y : Int) (w : World) (hr : Rds w 1 A 2 c (nums .i64 [x, y])) : Calls Try.prog 61 #[.slice A 2 c] w fun e w' => e = .returned (.int .i64 (if x = 0 then y else x)) ∧ w = w' := by
  obtain ⟨ad, rfl⟩ := hr.some_ (by omega)
  have c0 : w.cell? ad = some (.int .i64 x) := hr.cell ad rfl 0 _ rfl
  have c1 : w.cell? ⟨ad.block, ad.off + 1, none⟩ = some (.int .i64 y) := hr.cell ad rfl 1 _ rfl
  clear hr
  go_enter Try.func61, Try.ntmps61
  go_wp2
  go_loop [8] (fun i => ∃ k : Nat, k ≤ 2 ∧ i = .int .i64 k ∧ (1 ≤ k → x = 0) ∧ (2 ≤ k → y = 0)) (fun i => 2 - (intOf i).toNat)
  case atStart => exact ⟨0, by omega, rfl, fun h => by omega, fun h => by omega⟩
  case round =>
    obtain ⟨k, hk, rfl, h1, h2⟩ := hrel
    have h3 : k = 0 ∨ k = 1 ∨ k = 2 := by omega
    rcases h3 with rfl | rfl | rfl
    · by_cases hx : x = 0
      · have hb : (x == 0) = true := by simp [hx]
        have HX := Lib.hid hx
        clear hx h1 h2
        go_wp2
        go_round
        case rel => exact ⟨1, by omega, rfl, fun _ => HX.out, fun h => by omega⟩
        case measure => simp [intOf]
      · have hb : (x == 0) = false := by simp [hx]
        have HX := Lib.hid hx
        clear hx h1 h2
        go_wp2
        go_ret
        exact ⟨rfl, rfl⟩
    · have HX := Lib.hid (h1 (by omega))
      by_cases hy : y = 0
      · have hb : (y == 0) = true := by simp [hy]
        have HY := Lib.hid hy
        clear hy h1 h2
        go_wp2
        go_round
        case rel => exact ⟨2, by omega, rfl, fun _ => HX.out, fun _ => HY.out⟩
        case measure => simp [intOf]
      · have hb : (y == 0) = false := by simp [hy]
        have HY := Lib.hid hy
        clear hy h1 h2
        go_wp2
        go_ret
        exact ⟨rfl, rfl⟩
    · have HX := Lib.hid (h1 (by omega))
      have HY := Lib.hid (h2 (by omega))
      clear h1 h2
      go_wp2
      go_ret
      exact ⟨ret_int HY.out.symm, rfl⟩
def bigV (h l h' l' : Nat) : Int := if cmpN h h' = 0 then cmpN l l' else cmpN h h'
set_option maxRecDepth 100000 in
set_option maxHeartbeats 1000000 in
theorem nbigger (n : Bool) (h l : Nat) (n' : Bool) (h' l' : Nat) (w : World) : Calls Try.prog 54 #[.agg #[.bool n, .int .u64 h, .int .u64 l], .agg #[.bool n', .int .u64 h', .int .u64 l']] w fun e w' => e = .returned (.int .i64 (bigV h l h' l')) ∧ Below w.heap.size w w' := by
  obtain ⟨W0, hW0⟩ : ∃ W0, W0 = (w.alloc (.cells #[.bool n, .int .u64 h, .int .u64 l] 69)).alloc (.cells #[.bool n', .int .u64 h', .int .u64 l'] 69) := ⟨_, rfl⟩
  have hB0 : Below w.heap.size w W0 := by rw [hW0]; exact below_al (below_al (Below.refl _ _) _) _
  have c1 : W0.cell? ⟨w.heap.size, 1, none⟩ = some (.int .u64 h) := by rw [hW0]; go_simp
  have c2 : W0.cell? ⟨w.heap.size, 2, none⟩ = some (.int .u64 l) := by rw [hW0]; go_simp
  have c3 : W0.cell? ⟨w.heap.size + 1, 1, none⟩ = some (.int .u64 h') := by rw [hW0]; go_simp
  have c4 : W0.cell? ⟨w.heap.size + 1, 2, none⟩ = some (.int .u64 l') := by rw [hW0]; go_simp
  unfold bigV
  obtain ⟨x, hx⟩ : ∃ x, cmpN h h' = x := ⟨_, rfl⟩
  obtain ⟨y, hy⟩ : ∃ y, cmpN l l' = y := ⟨_, rfl⟩
  have H1 := Lib.hid (ncompare h h')
  have H2 := Lib.hid (ncompare l l')
  rw [hx] at H1
  rw [hy] at H2
  rw [hx, hy]
  clear hx hy
  have HO := Lib.hid (fun A c W h => nor A c x y W h)
  obtain ⟨z, hz⟩ : ∃ z, (if x = 0 then y else x) = z := ⟨_, rfl⟩
  rw [hz] at HO
  rw [hz]
  clear hz
  go_enter Try.func54, Try.ntmps54
  go_wp2
  rw [← hW0]
  clear hW0
  obtain ⟨bz, hbz⟩ : ∃ bz, bz = w.heap.size := ⟨_, rfl⟩
  rw [← hbz] at c1 c2 c3 c4
  rw [show Value.pointer (some ⟨w.heap.size, 0, none⟩) = Value.pointer (some ⟨bz, 0, none⟩) by rw [hbz], show Value.pointer (some ⟨w.heap.size + 1, 0, none⟩) = Value.pointer (some ⟨bz + 1, 0, none⟩) by rw [hbz]]
  clear hbz
  obtain ⟨T, hT⟩ : ∃ T : Nat → Fact, ∀ t_, T t_ = ([Fact.eq (.pointer (some ⟨bz, 1, none⟩)), Fact.eq (.int .u64 h), Fact.eq (.pointer (some ⟨bz + 1, 1, none⟩)), Fact.eq (.int .u64 h'), Fact.eq (.int .i64 x), Fact.eq (.pointer (some ⟨bz, 2, none⟩)), Fact.eq (.int .u64 l), Fact.eq (.pointer (some ⟨bz + 1, 2, none⟩)), Fact.eq (.int .u64 l'), Fact.eq (.int .i64 y), Fact.row 1 (nums .i64 [x, y]), Fact.eq (.int .i64 z), Fact.eq (.int .i64 z)] : List (Fact)).getD t_ Fact.any := ⟨_, fun _ => rfl⟩
  refine region_tab [(0, 5), (1, 6), (2, 7), (3, 8), (4, 9), (5, 10), (6, 11), (7, 12), (8, 13), (9, 14), (10, 15), (11, 16), (12, 4)] T (by kernel_rfl) (by kernel_rfl) (by kernel_rfl) (by kernel_rfl) (by kernel_rfl) ?_ ?_
  · skip
    refine stepsAll_cons (k := 0) ?_ ?_
    · intro fa fx fW hF fB hE K fK
      have ev2 : fa.tmps[2]?.getD undef = .pointer (some ⟨bz, 0, none⟩) := hF.eo 2 (by kernel_rfl)
      refine wpOp_val rfl (wanted_none rfl) ?_ (fK (.pointer (some ⟨bz, 1, none⟩)) fW (Below.refl _ _) (by rw [hT]; exact rfl))
      clear fK hE hF
      go_simp
    refine stepsAll_cons (k := 1) ?_ ?_
    · intro fa fx fW hF fB hE K fK
      have q0 : fx 0 = .pointer (some ⟨bz, 1, none⟩) := by have q := hE ⟨0, .data⟩ (by simp) rfl; rw [hT] at q; exact q
      have ev5 : fa.tmps[5]?.getD undef = .pointer (some ⟨bz, 1, none⟩) := (hF.ev 0 5 (by kernel_rfl)).trans q0
      have c1 := cell_below fB c1
      refine wpOp_val rfl (wanted_none rfl) ?_ (fK (.int .u64 h) fW (Below.refl _ _) (by rw [hT]; exact rfl))
      clear fK hE hF
      go_simp
    refine stepsAll_cons (k := 2) ?_ ?_
    · intro fa fx fW hF fB hE K fK
      have ev3 : fa.tmps[3]?.getD undef = .pointer (some ⟨bz + 1, 0, none⟩) := hF.eo 3 (by kernel_rfl)
      refine wpOp_val rfl (wanted_none rfl) ?_ (fK (.pointer (some ⟨bz + 1, 1, none⟩)) fW (Below.refl _ _) (by rw [hT]; exact rfl))
      clear fK hE hF
      go_simp
    refine stepsAll_cons (k := 3) ?_ ?_
    · intro fa fx fW hF fB hE K fK
      have q2 : fx 2 = .pointer (some ⟨bz + 1, 1, none⟩) := by have q := hE ⟨2, .data⟩ (by simp) rfl; rw [hT] at q; exact q
      have ev7 : fa.tmps[7]?.getD undef = .pointer (some ⟨bz + 1, 1, none⟩) := (hF.ev 2 7 (by kernel_rfl)).trans q2
      have c3 := cell_below fB c3
      refine wpOp_val rfl (wanted_none rfl) ?_ (fK (.int .u64 h') fW (Below.refl _ _) (by rw [hT]; exact rfl))
      clear fK hE hF
      go_simp
    refine stepsAll_cons (k := 4) ?_ ?_
    · intro fa fx fW hF fB hE K fK
      have q1 : fx 1 = .int .u64 h := by have q := hE ⟨1, .data⟩ (by simp) rfl; rw [hT] at q; exact q
      have q3 : fx 3 = .int .u64 h' := by have q := hE ⟨3, .data⟩ (by simp) rfl; rw [hT] at q; exact q
      have ev6 : fa.tmps[6]?.getD undef = .int .u64 h := (hF.ev 1 6 (by kernel_rfl)).trans q1
      have ev8 : fa.tmps[8]?.getD undef = .int .u64 h' := (hF.ev 3 8 (by kernel_rfl)).trans q3
      refine wpOp_call rfl (wanted_none rfl) (by go_simp; exact ⟨rfl, rfl⟩) ?_
      refine (H1.out fW).mono ?_
      rintro e w' ⟨rfl, rfl⟩
      exact ⟨_, rfl, fK (.int .i64 x) (fW) (Below.refl _ _) (by rw [hT]; exact rfl)⟩
    refine stepsAll_cons (k := 5) ?_ ?_
    · intro fa fx fW hF fB hE K fK
      have ev2 : fa.tmps[2]?.getD undef = .pointer (some ⟨bz, 0, none⟩) := hF.eo 2 (by kernel_rfl)
      refine wpOp_val rfl (wanted_none rfl) ?_ (fK (.pointer (some ⟨bz, 2, none⟩)) fW (Below.refl _ _) (by rw [hT]; exact rfl))
      clear fK hE hF
      go_simp
    refine stepsAll_cons (k := 6) ?_ ?_
    · intro fa fx fW hF fB hE K fK
      have q5 : fx 5 = .pointer (some ⟨bz, 2, none⟩) := by have q := hE ⟨5, .data⟩ (by simp) rfl; rw [hT] at q; exact q
      have ev10 : fa.tmps[10]?.getD undef = .pointer (some ⟨bz, 2, none⟩) := (hF.ev 5 10 (by kernel_rfl)).trans q5
      have c2 := cell_below fB c2
      refine wpOp_val rfl (wanted_none rfl) ?_ (fK (.int .u64 l) fW (Below.refl _ _) (by rw [hT]; exact rfl))
      clear fK hE hF
      go_simp
    refine stepsAll_cons (k := 7) ?_ ?_
    · intro fa fx fW hF fB hE K fK
      have ev3 : fa.tmps[3]?.getD undef = .pointer (some ⟨bz + 1, 0, none⟩) := hF.eo 3 (by kernel_rfl)
      refine wpOp_val rfl (wanted_none rfl) ?_ (fK (.pointer (some ⟨bz + 1, 2, none⟩)) fW (Below.refl _ _) (by rw [hT]; exact rfl))
      clear fK hE hF
      go_simp
    refine stepsAll_cons (k := 8) ?_ ?_
    · intro fa fx fW hF fB hE K fK
      have q7 : fx 7 = .pointer (some ⟨bz + 1, 2, none⟩) := by have q := hE ⟨7, .data⟩ (by simp) rfl; rw [hT] at q; exact q
      have ev12 : fa.tmps[12]?.getD undef = .pointer (some ⟨bz + 1, 2, none⟩) := (hF.ev 7 12 (by kernel_rfl)).trans q7
      have c4 := cell_below fB c4
      refine wpOp_val rfl (wanted_none rfl) ?_ (fK (.int .u64 l') fW (Below.refl _ _) (by rw [hT]; exact rfl))
      clear fK hE hF
      go_simp
    refine stepsAll_cons (k := 9) ?_ ?_
    · intro fa fx fW hF fB hE K fK
      have q6 : fx 6 = .int .u64 l := by have q := hE ⟨6, .data⟩ (by simp) rfl; rw [hT] at q; exact q
      have q8 : fx 8 = .int .u64 l' := by have q := hE ⟨8, .data⟩ (by simp) rfl; rw [hT] at q; exact q
      have ev11 : fa.tmps[11]?.getD undef = .int .u64 l := (hF.ev 6 11 (by kernel_rfl)).trans q6
      have ev13 : fa.tmps[13]?.getD undef = .int .u64 l' := (hF.ev 8 13 (by kernel_rfl)).trans q8
      refine wpOp_call rfl (wanted_none rfl) (by go_simp; exact ⟨rfl, rfl⟩) ?_
      refine (H2.out fW).mono ?_
      rintro e w' ⟨rfl, rfl⟩
      exact ⟨_, rfl, fK (.int .i64 y) (fW) (Below.refl _ _) (by rw [hT]; exact rfl)⟩
    refine stepsAll_cons (k := 10) ?_ ?_
    · intro fa fx fW hF fB hE K fK
      have q4 : fx 4 = .int .i64 x := by have q := hE ⟨4, .data⟩ (by simp) rfl; rw [hT] at q; exact q
      have q9 : fx 9 = .int .i64 y := by have q := hE ⟨9, .data⟩ (by simp) rfl; rw [hT] at q; exact q
      have ev9 : fa.tmps[9]?.getD undef = .int .i64 x := (hF.ev 4 9 (by kernel_rfl)).trans q4
      have ev14 : fa.tmps[14]?.getD undef = .int .i64 y := (hF.ev 9 14 (by kernel_rfl)).trans q9
      refine wpOp_to rfl (wanted_none rfl) (v := .slice (some ⟨fW.heap.size, 0, none⟩) 2 2) (W' := fW.alloc (.cells #[.int .i64 x, .int .i64 y] 3)) (by clear fK hE hF; go_simp) (fK _ _ (below_al (Below.refl _ _) _) (by rw [hT]; exact ⟨_, 2, 2, rfl, rds_lit fW _ 1 2 (nums .i64 [x, y]) rfl (by decide)⟩))
    refine stepsAll_cons (k := 11) ?_ ?_
    · intro fa fx fW hF fB hE K fK
      have q10 : (Fact.row 1 (nums .i64 [x, y])).p (fx 10) fW := by have q := hE ⟨10, .data⟩ (by simp) rfl; rw [hT] at q; exact q
      have ev15 : fa.tmps[15]?.getD undef = fx 10 := hF.ev 10 15 (by kernel_rfl)
      refine wpOp_call rfl (wanted_none rfl) (by go_simp; exact ⟨rfl, rfl⟩) ?_
      obtain ⟨A, m, c, e10, hr⟩ := q10
      have hm : m = 2 := by have := hr.len; simp [nums] at this; omega
      subst hm
      rw [e10]
      refine (HO.out A c fW hr).mono ?_
      rintro e w' ⟨rfl, rfl⟩
      exact ⟨_, rfl, fK (.int .i64 z) (fW) (Below.refl _ _) (by rw [hT]; exact rfl)⟩
    refine stepsAll_cons (k := 12) ?_ ?_
    · intro fa fx fW hF fB hE K fK
      have q11 : fx 11 = .int .i64 z := by have q := hE ⟨11, .data⟩ (by simp) rfl; rw [hT] at q; exact q
      have ev16 : fa.tmps[16]?.getD undef = .int .i64 z := (hF.ev 11 16 (by kernel_rfl)).trans q11
      refine wpOp_val rfl (wanted_none rfl) ?_ (fK (.int .i64 z) fW (Below.refl _ _) (by rw [hT]; exact rfl))
      clear fK hE hF
      go_simp
    exact stepsAll_nil
  intro fa fx fW hF fB hx
  have q12 : fx 12 = .int .i64 z := by have q := hx 12 (by decide); rw [hT] at q; exact q
  have ev4 : fa.tmps[4]?.getD undef = .int .i64 z := (hF.ev 12 4 (by kernel_rfl)).trans q12
  rw [hF.eq]
  clear hF hx
  simp only [putAll, Act.put, List.setIfInBounds_toArray, List.set_cons_zero, List.set_cons_succ, q12]
  go_wp2
  go_ret
  exact ⟨rfl, below_tr hB0 fB⟩
theorem bigV_size (p q : Int) : bigV (hiN p) (loN p) (hiN q) (loN q) = sizeCmp p q := (sizeCmp_words p q).symm
end Go.Proofs.Ytnacfpkagomfaaa
