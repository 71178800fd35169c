/- The law CodePuts: whatever the values and the bytes: true. -/
import Derived.Test.YtdhckbpfkdekmaaLaw07
import Derived.Test.YtdhckbpfkdekmaaRegion
namespace Go.Proofs.Ytdhckbpfkdekmaa
open Go.RowKit
def spare : List Int := bytesOf ⟨#[115, 112, 97, 114, 101, 32, 114, 111, 111, 109]⟩
theorem strOfNums_app (xs ys : List Int) : strOfNums (xs ++ ys) = strOfNums xs ++ strOfNums ys := by
  apply ByteArray.ext
  simp [strOfNums]
theorem str_spare (bs : List Int) : strOfNums bs ++ ⟨#[115, 112, 97, 114, 101, 32, 114, 111, 111, 109]⟩ = strOfNums (bs ++ spare) := by
  rw [strOfNums_app]
  congr 1
set_option maxRecDepth 100000 in
set_option maxHeartbeats 4000000 in
theorem putsLaw (A : Option Addr) (n c : Nat) (bs : List Int) (k : Int) (x : Nat) (i : Int) (s : ByteArray) (B : Option Addr) (m d : Nat) (xs : List Int) (hx : x < 18446744073709551616) (hi : I64 i) (hxs : ∀ x ∈ xs, I64 x) (w : World)
    (hr : Rds w 1 A n c (nums .u8 bs)) (hr2 : Rds w 1 B m d (nums .i64 xs)) :
    Calls Try.prog 3 #[.slice A n c, .agg #[.int .i64 k, .int .u64 x, .int .i64 i, .string s, .slice B m d]] w fun e w' => e = .returned (.bool true) ∧ Below w.heap.size w w' := by
  have HX := Lib.hid hx
  have HI := Lib.hid hi
  have HXS := Lib.hid hxs
  clear hx hi hxs
  by_cases h1 : 300 < n
  · have hc := hr.le
    go_enter Try.func3, Try.ntmps3
    go_wp2_with (go_at_call 9; refine (lives07 _).mono ?_; rintro e w' ⟨rfl, hb⟩)
    go_ret
    exact ⟨rfl, below_tr (below_al (Below.refl _ _) _) hb⟩
  by_cases h2 : 300 < s.size
  · go_enter Try.func3, Try.ntmps3
    go_wp2_with (go_at_call 9; refine (lives07 _).mono ?_; rintro e w' ⟨rfl, hb⟩)
    go_ret
    exact ⟨rfl, below_tr (below_al (Below.refl _ _) _) hb⟩
  by_cases h3 : 100 < m
  · go_enter Try.func3, Try.ntmps3
    go_wp2_with (go_at_call 9; refine (lives07 _).mono ?_; rintro e w' ⟨rfl, hb⟩)
    go_ret
    exact ⟨rfl, below_tr (below_al (Below.refl _ _) _) hb⟩
  have hbl := rds_len hr
  have HN := Lib.hid hbl
  clear hbl
  obtain ⟨wB, hwB⟩ : ∃ wB, wB = w.alloc (.cells #[.int .i64 k, .int .u64 x, .int .i64 i, .string s, .slice B m d] 26) := ⟨_, rfl⟩
  have hB : Below w.heap.size w wB := by rw [hwB]; exact below_al (Below.refl _ _) _
  have hlt : w.heap.size < wB.heap.size := by rw [hwB]; simp
  have hc0 : wB.cell? ⟨w.heap.size, 0, none⟩ = some (.int .i64 k) := by rw [hwB]; exact cell_of_row _ _ _ _ _ _ (heap_alloc_new w _)
  have hc1 : wB.cell? ⟨w.heap.size, 1, none⟩ = some (.int .u64 x) := by rw [hwB]; exact cell_of_row _ _ _ _ _ _ (heap_alloc_new w _)
  have hc2 : wB.cell? ⟨w.heap.size, 2, none⟩ = some (.int .i64 i) := by rw [hwB]; exact cell_of_row _ _ _ _ _ _ (heap_alloc_new w _)
  have hc3 : wB.cell? ⟨w.heap.size, 3, none⟩ = some (.string s) := by rw [hwB]; exact cell_of_row _ _ _ _ _ _ (heap_alloc_new w _)
  have hc4 : wB.cell? ⟨w.heap.size, 4, none⟩ = some (.slice B m d) := by rw [hwB]; exact cell_of_row _ _ _ _ _ _ (heap_alloc_new w _)
  have hrB := hr.below hB
  have hrB2 := hr2.below hB
  have HW := Lib.hid hwB
  clear hwB
  go_enter Try.func3, Try.ntmps3
  go_wp2_with (first
    | (at_make; rw [← HW.out]; refine mk0 (w0 := wB) wB.heap.size (by rfl) _ _ 22 5 _ 1 1 (by rfl) Try.underlying22 info_u8 _ _ _ (n + 50) (by rfl) (by rfl) (by simp) (by omega) (by unfold maxLen; omega) (Below.refl _ _) (Nat.le_refl _) ?_; intro w1 hown1 hbel1 _; have hx1 := bcell hbel1)
    | (at_builtin; refine aps wB.heap.size (by rfl) _ _ 22 9 5 (by rfl) Try.underlying22 Try.underlying9 info_u8 _ _ _ _ (by rfl) (by rfl) hown2 hbel2 hbel2.size (by rw [List.nil_append, HN.out]; show n + 10 ≤ _; omega) ?_; intro v3 w3 hown3 hbel3 _; have hx3 := bcell hbel3; obtain ⟨A3, n3, c3, rfl, HN3, hr3⟩ := own_open hown3; have hle3 : n ≤ c3 := (by have := hr3.le; rw [HN3.out, List.nil_append, HN.out] at this; omega); have hr4 := hr3.take_ n (by rw [HN3.out, List.nil_append, HN.out]; omega))
    | (at_builtin; refine apbs (w0 := wB) (by rfl) _ _ (by rfl) _ [] A n c bs (by rfl) (by rfl) (hrB.below hbel1) hown1 hbel1 (by simp; omega) ?_; intro v2 w2 hown2 hbel2; have hx2 := bcell hbel2))
  have hr5 : Rds w3 1 A3 n c3 (nums .u8 bs) := by
    have e : List.take (n * 1) (nums .u8 ([] ++ bs) ++ Lib.strCells ⟨#[115, 112, 97, 114, 101, 32, 114, 111, 111, 109]⟩) = nums .u8 bs := by
      rw [List.take_append_of_le_length (by rw [nums_length, List.nil_append, HN.out]; omega), List.take_of_length_le (by rw [nums_length, List.nil_append, HN.out]; omega), List.nil_append]
    rw [e] at hr4
    exact hr4
  have hrA := hrB.below hbel3
  have hrX := hrB2.below hbel3
  have hd0 := (hx3 _ 0 hlt).trans hc0
  have hd1 := (hx3 _ 1 hlt).trans hc1
  have hd2 := (hx3 _ 2 hlt).trans hc2
  have hd3 := (hx3 _ 3 hlt).trans hc3
  have hd4 := (hx3 _ 4 hlt).trans hc4
  have hlt3 : w.heap.size < w3.heap.size := Nat.lt_of_lt_of_le hlt hbel3.size
  clear hx1 hx2 hx3 hr4 hc0 hc1 hc2 hc3 hc4 hrB hrB2
  clear hown1 hown2 hown3
  obtain ⟨T, hT⟩ : ∃ T : Nat → Fact, ∀ t_, T t_ = ([Fact.eq (.slice A3 n c3), Fact.eq (.pointer (some ⟨w.heap.size, 1, none⟩)), Fact.eq (.int .u64 x), Fact.row 1 (nums .u8 (bs ++ enc x)), Fact.eq (.string (strOfNums (bs ++ enc x))), Fact.eq (.slice A n c), Fact.eq (.pointer (some ⟨w.heap.size, 1, none⟩)), Fact.eq (.int .u64 x), Fact.row 1 (nums .u8 (bs ++ enc x)), Fact.eq (.string (strOfNums (bs ++ enc x))), Fact.eq (.bool true), Fact.eq (.bool true), Fact.eq (.slice A3 n c3), Fact.eq (.pointer (some ⟨w.heap.size, 2, none⟩)), Fact.eq (.int .i64 i), Fact.row 1 (nums .u8 (bs ++ enc (zigN i))), Fact.eq (.string (strOfNums (bs ++ enc (zigN i)))), Fact.eq (.slice A n c), Fact.eq (.pointer (some ⟨w.heap.size, 2, none⟩)), Fact.eq (.int .i64 i), Fact.row 1 (nums .u8 (bs ++ enc (zigN i))), Fact.eq (.string (strOfNums (bs ++ enc (zigN i)))), Fact.eq (.bool true), Fact.eq (.bool true), Fact.eq (.bool true), Fact.eq (.slice A3 n c3), Fact.eq (.pointer (some ⟨w.heap.size, 3, none⟩)), Fact.eq (.string s), Fact.row 1 (nums .u8 (bs ++ enc s.size ++ bytesOf s)), Fact.eq (.string (strOfNums (bs ++ enc s.size ++ bytesOf s))), Fact.eq (.slice A n c), Fact.eq (.pointer (some ⟨w.heap.size, 3, none⟩)), Fact.eq (.string s), Fact.row 1 (nums .u8 (bs ++ enc s.size ++ bytesOf s)), Fact.eq (.string (strOfNums (bs ++ enc s.size ++ bytesOf s))), Fact.eq (.bool true), Fact.eq (.bool true), Fact.eq (.bool true), Fact.eq (.slice A3 n c3), Fact.eq (.pointer (some ⟨w.heap.size, 0, none⟩)), Fact.eq (.int .i64 k), Fact.eq (.bool (k == 1)), Fact.row 1 (nums .u8 (bs ++ [flagN (k == 1)])), Fact.eq (.string (strOfNums (bs ++ [flagN (k == 1)]))), Fact.eq (.slice A n c), Fact.eq (.pointer (some ⟨w.heap.size, 0, none⟩)), Fact.eq (.int .i64 k), Fact.eq (.bool (k == 1)), Fact.row 1 (nums .u8 (bs ++ [flagN (k == 1)])), Fact.eq (.string (strOfNums (bs ++ [flagN (k == 1)]))), Fact.eq (.bool true), Fact.eq (.bool true), Fact.eq (.bool true), Fact.eq (.slice A3 n c3), Fact.eq (.pointer (some ⟨w.heap.size, 4, none⟩)), Fact.eq (.slice B m d), Fact.row 1 (nums .u8 (bs ++ enc m ++ encs xs)), Fact.eq (.string (strOfNums (bs ++ enc m ++ encs xs))), Fact.eq (.slice A n c), Fact.eq (.pointer (some ⟨w.heap.size, 4, none⟩)), Fact.eq (.slice B m d), Fact.row 1 (nums .u8 (bs ++ enc m ++ encs xs)), Fact.eq (.string (strOfNums (bs ++ enc m ++ encs xs))), Fact.eq (.bool true), Fact.eq (.bool true), Fact.eq (.bool true)] : List Fact).getD t_ Fact.any := ⟨_, fun _ => rfl⟩
  refine region_tab [(0, 33), (1, 34), (2, 35), (3, 36), (4, 37), (5, 38), (6, 39), (7, 40), (8, 41), (9, 42), (10, 43), (11, 44), (12, 45), (13, 46), (14, 47), (15, 48), (16, 49), (17, 50), (18, 51), (19, 52), (20, 53), (21, 54), (22, 55), (23, 56), (24, 57), (25, 58), (26, 59), (27, 60), (28, 61), (29, 62), (30, 63), (31, 64), (32, 65), (33, 66), (34, 67), (35, 68), (36, 69), (37, 70), (38, 71), (39, 72), (40, 73), (41, 74), (42, 75), (43, 76), (44, 77), (45, 78), (46, 79), (47, 80), (48, 81), (49, 82), (50, 83), (51, 84), (52, 85), (53, 86), (54, 87), (55, 88), (56, 89), (57, 90), (58, 91), (59, 92), (60, 93), (61, 94), (62, 95), (63, 96), (64, 97), (65, 6)] T (by kernel_rfl) (by kernel_rfl) (by kernel_rfl) (by kernel_rfl) (by kernel_rfl) ?_ ?_
  · skip
    refine stepsAll_cons (k := 0) ?_ ?_
    · intro fa fx fW hF fB hE K fK
      have ev5 : fa.tmps[5]?.getD undef = .slice A3 n c3 := hF.eo 5 (by kernel_rfl)
      refine wpOp_val rfl (wanted_none rfl) ?_ (fK (.slice A3 n c3) fW (Below.refl _ _) (by rw [hT]; exact rfl))
      clear fK hE hF
      go_simp
    refine stepsAll_cons (k := 1) ?_ ?_
    · intro fa fx fW hF fB hE K fK
      have ev3 : fa.tmps[3]?.getD undef = .pointer (some ⟨w.heap.size, 0, none⟩) := hF.eo 3 (by kernel_rfl)
      refine wpOp_val rfl (wanted_none rfl) ?_ (fK (.pointer (some ⟨w.heap.size, 1, none⟩)) fW (Below.refl _ _) (by rw [hT]; exact rfl))
      clear fK hE hF
      go_simp
    refine stepsAll_cons (k := 2) ?_ ?_
    · intro fa fx fW hF fB hE K fK
      have q1 : fx 1 = .pointer (some ⟨w.heap.size, 1, none⟩) := by have q := hE ⟨1, .data⟩ (by simp) rfl; rw [hT] at q; exact q
      have ev34 : fa.tmps[34]?.getD undef = .pointer (some ⟨w.heap.size, 1, none⟩) := (hF.ev 1 34 (by kernel_rfl)).trans q1
      have hm := (bcell fB _ 1 hlt3).trans hd1
      refine wpOp_val rfl (wanted_none rfl) ?_ (fK (.int .u64 x) fW (Below.refl _ _) (by rw [hT]; exact rfl))
      clear fK hE hF
      go_simp
    refine stepsAll_cons (k := 3) ?_ ?_
    · intro fa fx fW hF fB hE K fK
      have q0 : fx 0 = .slice A3 n c3 := by have q := hE ⟨0, .data⟩ (by simp) rfl; rw [hT] at q; exact q
      have q2 : fx 2 = .int .u64 x := by have q := hE ⟨2, .data⟩ (by simp) rfl; rw [hT] at q; exact q
      have ev33 : fa.tmps[33]?.getD undef = .slice A3 n c3 := (hF.ev 0 33 (by kernel_rfl)).trans q0
      have ev35 : fa.tmps[35]?.getD undef = .int .u64 x := (hF.ev 2 35 (by kernel_rfl)).trans q2
      refine wpOp_call rfl (wanted_none rfl) (by go_simp; exact ⟨rfl, rfl⟩) ?_
      refine (cnum _ _ _ _ _ HX.out _ (hr5.below fB) (by omega)).mono ?_
      intro e w1 h1
      obtain ⟨A1, n1, c1, rfl, _, hr1, hb1, _⟩ := h1.open_
      exact ⟨_, rfl, fK (.slice A1 n1 c1) (w1) (hb1) (by rw [hT]; exact ⟨A1, n1, c1, rfl, hr1⟩)⟩
    refine stepsAll_cons (k := 4) ?_ ?_
    · intro fa fx fW hF fB hE K fK
      have q3 : (Fact.row 1 (nums .u8 (bs ++ enc x))).p (fx 3) fW := by have q := hE ⟨3, .data⟩ (by simp) rfl; rw [hT] at q; exact q
      have ev36 : fa.tmps[36]?.getD undef = fx 3 := hF.ev 3 36 (by kernel_rfl)
      refine wpOp_val rfl (wanted_none rfl) ?_ (fK (.string (strOfNums (bs ++ enc x))) fW (Below.refl _ _) (by rw [hT]; exact rfl))
      clear fK hE hF
      obtain ⟨A', n', c', e', hr'⟩ := q3
      have hc' := conv_str Try.underlying22 Try.underlying5 Try.underlying9 hr'
      clear hr'
      go_simp
    refine stepsAll_cons (k := 5) ?_ ?_
    · intro fa fx fW hF fB hE K fK
      have ev0 : fa.tmps[0]?.getD undef = .slice A n c := hF.eo 0 (by kernel_rfl)
      refine wpOp_val rfl (wanted_none rfl) ?_ (fK (.slice A n c) fW (Below.refl _ _) (by rw [hT]; exact rfl))
      clear fK hE hF
      go_simp
    refine stepsAll_cons (k := 6) ?_ ?_
    · intro fa fx fW hF fB hE K fK
      have ev3 : fa.tmps[3]?.getD undef = .pointer (some ⟨w.heap.size, 0, none⟩) := hF.eo 3 (by kernel_rfl)
      refine wpOp_val rfl (wanted_none rfl) ?_ (fK (.pointer (some ⟨w.heap.size, 1, none⟩)) fW (Below.refl _ _) (by rw [hT]; exact rfl))
      clear fK hE hF
      go_simp
    refine stepsAll_cons (k := 7) ?_ ?_
    · intro fa fx fW hF fB hE K fK
      have q6 : fx 6 = .pointer (some ⟨w.heap.size, 1, none⟩) := by have q := hE ⟨6, .data⟩ (by simp) rfl; rw [hT] at q; exact q
      have ev39 : fa.tmps[39]?.getD undef = .pointer (some ⟨w.heap.size, 1, none⟩) := (hF.ev 6 39 (by kernel_rfl)).trans q6
      have hm := (bcell fB _ 1 hlt3).trans hd1
      refine wpOp_val rfl (wanted_none rfl) ?_ (fK (.int .u64 x) fW (Below.refl _ _) (by rw [hT]; exact rfl))
      clear fK hE hF
      go_simp
    refine stepsAll_cons (k := 8) ?_ ?_
    · intro fa fx fW hF fB hE K fK
      have q5 : fx 5 = .slice A n c := by have q := hE ⟨5, .data⟩ (by simp) rfl; rw [hT] at q; exact q
      have q7 : fx 7 = .int .u64 x := by have q := hE ⟨7, .data⟩ (by simp) rfl; rw [hT] at q; exact q
      have ev38 : fa.tmps[38]?.getD undef = .slice A n c := (hF.ev 5 38 (by kernel_rfl)).trans q5
      have ev40 : fa.tmps[40]?.getD undef = .int .u64 x := (hF.ev 7 40 (by kernel_rfl)).trans q7
      refine wpOp_call rfl (wanted_none rfl) (by go_simp; exact ⟨rfl, rfl⟩) ?_
      refine (rnum _ _ _ _ _ HX.out _ (hrA.below fB) (by omega)).mono ?_
      intro e w1 h1
      obtain ⟨A1, n1, c1, rfl, _, hr1, hb1, _⟩ := h1.open_
      exact ⟨_, rfl, fK (.slice A1 n1 c1) (w1) (hb1) (by rw [hT]; exact ⟨A1, n1, c1, rfl, hr1⟩)⟩
    refine stepsAll_cons (k := 9) ?_ ?_
    · intro fa fx fW hF fB hE K fK
      have q8 : (Fact.row 1 (nums .u8 (bs ++ enc x))).p (fx 8) fW := by have q := hE ⟨8, .data⟩ (by simp) rfl; rw [hT] at q; exact q
      have ev41 : fa.tmps[41]?.getD undef = fx 8 := hF.ev 8 41 (by kernel_rfl)
      refine wpOp_val rfl (wanted_none rfl) ?_ (fK (.string (strOfNums (bs ++ enc x))) fW (Below.refl _ _) (by rw [hT]; exact rfl))
      clear fK hE hF
      obtain ⟨A', n', c', e', hr'⟩ := q8
      have hc' := conv_str Try.underlying22 Try.underlying5 Try.underlying9 hr'
      clear hr'
      go_simp
    refine stepsAll_cons (k := 10) ?_ ?_
    · intro fa fx fW hF fB hE K fK
      have q4 : fx 4 = .string (strOfNums (bs ++ enc x)) := by have q := hE ⟨4, .data⟩ (by simp) rfl; rw [hT] at q; exact q
      have q9 : fx 9 = .string (strOfNums (bs ++ enc x)) := by have q := hE ⟨9, .data⟩ (by simp) rfl; rw [hT] at q; exact q
      have ev37 : fa.tmps[37]?.getD undef = .string (strOfNums (bs ++ enc x)) := (hF.ev 4 37 (by kernel_rfl)).trans q4
      have ev42 : fa.tmps[42]?.getD undef = .string (strOfNums (bs ++ enc x)) := (hF.ev 9 42 (by kernel_rfl)).trans q9
      refine wpOp_val rfl (wanted_none rfl) ?_ (fK (.bool true) fW (Below.refl _ _) (by rw [hT]; exact rfl))
      clear fK hE hF
      go_simp
    refine stepsAll_cons (k := 11) ?_ ?_
    · intro fa fx fW hF fB hE K fK
      have q10 : fx 10 = .bool true := by have q := hE ⟨10, .data⟩ (by simp) rfl; rw [hT] at q; exact q
      have ev43 : fa.tmps[43]?.getD undef = .bool true := (hF.ev 10 43 (by kernel_rfl)).trans q10
      refine wpOp_val rfl (wanted_none rfl) ?_ (fK (.bool true) fW (Below.refl _ _) (by rw [hT]; exact rfl))
      clear fK hE hF
      go_simp
    refine stepsAll_cons (k := 12) ?_ ?_
    · intro fa fx fW hF fB hE K fK
      have q11 : fx 11 = .bool true := by have q := hE ⟨11, .guard⟩ (by simp) rfl; rw [hT] at q; exact q
      have ev5 : fa.tmps[5]?.getD undef = .slice A3 n c3 := hF.eo 5 (by kernel_rfl)
      refine wpOp_val rfl (wanted_yes rfl (hF.yes 11 44 (by kernel_rfl) true q11)) ?_ (fK (.slice A3 n c3) fW (Below.refl _ _) (by rw [hT]; exact rfl))
      clear fK hE hF
      go_simp
    refine stepsAll_cons (k := 13) ?_ ?_
    · intro fa fx fW hF fB hE K fK
      have q11 : fx 11 = .bool true := by have q := hE ⟨11, .guard⟩ (by simp) rfl; rw [hT] at q; exact q
      have ev3 : fa.tmps[3]?.getD undef = .pointer (some ⟨w.heap.size, 0, none⟩) := hF.eo 3 (by kernel_rfl)
      refine wpOp_val rfl (wanted_yes rfl (hF.yes 11 44 (by kernel_rfl) true q11)) ?_ (fK (.pointer (some ⟨w.heap.size, 2, none⟩)) fW (Below.refl _ _) (by rw [hT]; exact rfl))
      clear fK hE hF
      go_simp
    refine stepsAll_cons (k := 14) ?_ ?_
    · intro fa fx fW hF fB hE K fK
      have q11 : fx 11 = .bool true := by have q := hE ⟨11, .guard⟩ (by simp) rfl; rw [hT] at q; exact q
      have q13 : fx 13 = .pointer (some ⟨w.heap.size, 2, none⟩) := by have q := hE ⟨13, .data⟩ (by simp) rfl; rw [hT] at q; exact q
      have ev46 : fa.tmps[46]?.getD undef = .pointer (some ⟨w.heap.size, 2, none⟩) := (hF.ev 13 46 (by kernel_rfl)).trans q13
      have hm := (bcell fB _ 2 hlt3).trans hd2
      refine wpOp_val rfl (wanted_yes rfl (hF.yes 11 44 (by kernel_rfl) true q11)) ?_ (fK (.int .i64 i) fW (Below.refl _ _) (by rw [hT]; exact rfl))
      clear fK hE hF
      go_simp
    refine stepsAll_cons (k := 15) ?_ ?_
    · intro fa fx fW hF fB hE K fK
      have q11 : fx 11 = .bool true := by have q := hE ⟨11, .chain⟩ (by simp) rfl; rw [hT] at q; exact q
      have q12 : fx 12 = .slice A3 n c3 := by have q := hE ⟨12, .data⟩ (by simp) rfl; rw [hT] at q; exact q
      have q14 : fx 14 = .int .i64 i := by have q := hE ⟨14, .data⟩ (by simp) rfl; rw [hT] at q; exact q
      have ev45 : fa.tmps[45]?.getD undef = .slice A3 n c3 := (hF.ev 12 45 (by kernel_rfl)).trans q12
      have ev47 : fa.tmps[47]?.getD undef = .int .i64 i := (hF.ev 14 47 (by kernel_rfl)).trans q14
      refine wpOp_call rfl (wanted_yes rfl (hF.yes 11 44 (by kernel_rfl) true q11)) (by go_simp; exact ⟨rfl, rfl⟩) ?_
      refine (cint _ _ _ _ _ HI.out _ (hr5.below fB) (by omega)).mono ?_
      intro e w1 h1
      obtain ⟨A1, n1, c1, rfl, _, hr1, hb1, _⟩ := h1.open_
      exact ⟨_, rfl, fK (.slice A1 n1 c1) (w1) (hb1) (by rw [hT]; exact ⟨A1, n1, c1, rfl, hr1⟩)⟩
    refine stepsAll_cons (k := 16) ?_ ?_
    · intro fa fx fW hF fB hE K fK
      have q11 : fx 11 = .bool true := by have q := hE ⟨11, .guard⟩ (by simp) rfl; rw [hT] at q; exact q
      have q15 : (Fact.row 1 (nums .u8 (bs ++ enc (zigN i)))).p (fx 15) fW := by have q := hE ⟨15, .data⟩ (by simp) rfl; rw [hT] at q; exact q
      have ev48 : fa.tmps[48]?.getD undef = fx 15 := hF.ev 15 48 (by kernel_rfl)
      refine wpOp_val rfl (wanted_yes rfl (hF.yes 11 44 (by kernel_rfl) true q11)) ?_ (fK (.string (strOfNums (bs ++ enc (zigN i)))) fW (Below.refl _ _) (by rw [hT]; exact rfl))
      clear fK hE hF
      obtain ⟨A', n', c', e', hr'⟩ := q15
      have hc' := conv_str Try.underlying22 Try.underlying5 Try.underlying9 hr'
      clear hr'
      go_simp
    refine stepsAll_cons (k := 17) ?_ ?_
    · intro fa fx fW hF fB hE K fK
      have q11 : fx 11 = .bool true := by have q := hE ⟨11, .guard⟩ (by simp) rfl; rw [hT] at q; exact q
      have ev0 : fa.tmps[0]?.getD undef = .slice A n c := hF.eo 0 (by kernel_rfl)
      refine wpOp_val rfl (wanted_yes rfl (hF.yes 11 44 (by kernel_rfl) true q11)) ?_ (fK (.slice A n c) fW (Below.refl _ _) (by rw [hT]; exact rfl))
      clear fK hE hF
      go_simp
    refine stepsAll_cons (k := 18) ?_ ?_
    · intro fa fx fW hF fB hE K fK
      have q11 : fx 11 = .bool true := by have q := hE ⟨11, .guard⟩ (by simp) rfl; rw [hT] at q; exact q
      have ev3 : fa.tmps[3]?.getD undef = .pointer (some ⟨w.heap.size, 0, none⟩) := hF.eo 3 (by kernel_rfl)
      refine wpOp_val rfl (wanted_yes rfl (hF.yes 11 44 (by kernel_rfl) true q11)) ?_ (fK (.pointer (some ⟨w.heap.size, 2, none⟩)) fW (Below.refl _ _) (by rw [hT]; exact rfl))
      clear fK hE hF
      go_simp
    refine stepsAll_cons (k := 19) ?_ ?_
    · intro fa fx fW hF fB hE K fK
      have q11 : fx 11 = .bool true := by have q := hE ⟨11, .guard⟩ (by simp) rfl; rw [hT] at q; exact q
      have q18 : fx 18 = .pointer (some ⟨w.heap.size, 2, none⟩) := by have q := hE ⟨18, .data⟩ (by simp) rfl; rw [hT] at q; exact q
      have ev51 : fa.tmps[51]?.getD undef = .pointer (some ⟨w.heap.size, 2, none⟩) := (hF.ev 18 51 (by kernel_rfl)).trans q18
      have hm := (bcell fB _ 2 hlt3).trans hd2
      refine wpOp_val rfl (wanted_yes rfl (hF.yes 11 44 (by kernel_rfl) true q11)) ?_ (fK (.int .i64 i) fW (Below.refl _ _) (by rw [hT]; exact rfl))
      clear fK hE hF
      go_simp
    refine stepsAll_cons (k := 20) ?_ ?_
    · intro fa fx fW hF fB hE K fK
      have q11 : fx 11 = .bool true := by have q := hE ⟨11, .guard⟩ (by simp) rfl; rw [hT] at q; exact q
      have q17 : fx 17 = .slice A n c := by have q := hE ⟨17, .data⟩ (by simp) rfl; rw [hT] at q; exact q
      have q19 : fx 19 = .int .i64 i := by have q := hE ⟨19, .data⟩ (by simp) rfl; rw [hT] at q; exact q
      have ev50 : fa.tmps[50]?.getD undef = .slice A n c := (hF.ev 17 50 (by kernel_rfl)).trans q17
      have ev52 : fa.tmps[52]?.getD undef = .int .i64 i := (hF.ev 19 52 (by kernel_rfl)).trans q19
      refine wpOp_call rfl (wanted_yes rfl (hF.yes 11 44 (by kernel_rfl) true q11)) (by go_simp; exact ⟨rfl, rfl⟩) ?_
      refine (rint _ _ _ _ _ HI.out _ (hrA.below fB) (by omega)).mono ?_
      intro e w1 h1
      obtain ⟨A1, n1, c1, rfl, _, hr1, hb1, _⟩ := h1.open_
      exact ⟨_, rfl, fK (.slice A1 n1 c1) (w1) (hb1) (by rw [hT]; exact ⟨A1, n1, c1, rfl, hr1⟩)⟩
    refine stepsAll_cons (k := 21) ?_ ?_
    · intro fa fx fW hF fB hE K fK
      have q11 : fx 11 = .bool true := by have q := hE ⟨11, .guard⟩ (by simp) rfl; rw [hT] at q; exact q
      have q20 : (Fact.row 1 (nums .u8 (bs ++ enc (zigN i)))).p (fx 20) fW := by have q := hE ⟨20, .data⟩ (by simp) rfl; rw [hT] at q; exact q
      have ev53 : fa.tmps[53]?.getD undef = fx 20 := hF.ev 20 53 (by kernel_rfl)
      refine wpOp_val rfl (wanted_yes rfl (hF.yes 11 44 (by kernel_rfl) true q11)) ?_ (fK (.string (strOfNums (bs ++ enc (zigN i)))) fW (Below.refl _ _) (by rw [hT]; exact rfl))
      clear fK hE hF
      obtain ⟨A', n', c', e', hr'⟩ := q20
      have hc' := conv_str Try.underlying22 Try.underlying5 Try.underlying9 hr'
      clear hr'
      go_simp
    refine stepsAll_cons (k := 22) ?_ ?_
    · intro fa fx fW hF fB hE K fK
      have q11 : fx 11 = .bool true := by have q := hE ⟨11, .guard⟩ (by simp) rfl; rw [hT] at q; exact q
      have q16 : fx 16 = .string (strOfNums (bs ++ enc (zigN i))) := by have q := hE ⟨16, .data⟩ (by simp) rfl; rw [hT] at q; exact q
      have q21 : fx 21 = .string (strOfNums (bs ++ enc (zigN i))) := by have q := hE ⟨21, .data⟩ (by simp) rfl; rw [hT] at q; exact q
      have ev49 : fa.tmps[49]?.getD undef = .string (strOfNums (bs ++ enc (zigN i))) := (hF.ev 16 49 (by kernel_rfl)).trans q16
      have ev54 : fa.tmps[54]?.getD undef = .string (strOfNums (bs ++ enc (zigN i))) := (hF.ev 21 54 (by kernel_rfl)).trans q21
      refine wpOp_val rfl (wanted_yes rfl (hF.yes 11 44 (by kernel_rfl) true q11)) ?_ (fK (.bool true) fW (Below.refl _ _) (by rw [hT]; exact rfl))
      clear fK hE hF
      go_simp
    refine stepsAll_cons (k := 23) ?_ ?_
    · intro fa fx fW hF fB hE K fK
      have q11 : fx 11 = .bool true := by have q := hE ⟨11, .data⟩ (by simp) rfl; rw [hT] at q; exact q
      have q22 : fx 22 = .bool true := by have q := hE ⟨22, .data⟩ (by simp) rfl; rw [hT] at q; exact q
      have ev44 : fa.tmps[44]?.getD undef = .bool true := (hF.ev 11 44 (by kernel_rfl)).trans q11
      have ev55 : fa.tmps[55]?.getD undef = .bool true := (hF.ev 22 55 (by kernel_rfl)).trans q22
      refine wpOp_val rfl (wanted_none rfl) ?_ (fK (.bool true) fW (Below.refl _ _) (by rw [hT]; exact rfl))
      clear fK hE hF
      go_simp
    refine stepsAll_cons (k := 24) ?_ ?_
    · intro fa fx fW hF fB hE K fK
      have q23 : fx 23 = .bool true := by have q := hE ⟨23, .data⟩ (by simp) rfl; rw [hT] at q; exact q
      have ev56 : fa.tmps[56]?.getD undef = .bool true := (hF.ev 23 56 (by kernel_rfl)).trans q23
      refine wpOp_val rfl (wanted_none rfl) ?_ (fK (.bool true) fW (Below.refl _ _) (by rw [hT]; exact rfl))
      clear fK hE hF
      go_simp
    refine stepsAll_cons (k := 25) ?_ ?_
    · intro fa fx fW hF fB hE K fK
      have q24 : fx 24 = .bool true := by have q := hE ⟨24, .guard⟩ (by simp) rfl; rw [hT] at q; exact q
      have ev5 : fa.tmps[5]?.getD undef = .slice A3 n c3 := hF.eo 5 (by kernel_rfl)
      refine wpOp_val rfl (wanted_yes rfl (hF.yes 24 57 (by kernel_rfl) true q24)) ?_ (fK (.slice A3 n c3) fW (Below.refl _ _) (by rw [hT]; exact rfl))
      clear fK hE hF
      go_simp
    refine stepsAll_cons (k := 26) ?_ ?_
    · intro fa fx fW hF fB hE K fK
      have q24 : fx 24 = .bool true := by have q := hE ⟨24, .guard⟩ (by simp) rfl; rw [hT] at q; exact q
      have ev3 : fa.tmps[3]?.getD undef = .pointer (some ⟨w.heap.size, 0, none⟩) := hF.eo 3 (by kernel_rfl)
      refine wpOp_val rfl (wanted_yes rfl (hF.yes 24 57 (by kernel_rfl) true q24)) ?_ (fK (.pointer (some ⟨w.heap.size, 3, none⟩)) fW (Below.refl _ _) (by rw [hT]; exact rfl))
      clear fK hE hF
      go_simp
    refine stepsAll_cons (k := 27) ?_ ?_
    · intro fa fx fW hF fB hE K fK
      have q24 : fx 24 = .bool true := by have q := hE ⟨24, .guard⟩ (by simp) rfl; rw [hT] at q; exact q
      have q26 : fx 26 = .pointer (some ⟨w.heap.size, 3, none⟩) := by have q := hE ⟨26, .data⟩ (by simp) rfl; rw [hT] at q; exact q
      have ev59 : fa.tmps[59]?.getD undef = .pointer (some ⟨w.heap.size, 3, none⟩) := (hF.ev 26 59 (by kernel_rfl)).trans q26
      have hm := (bcell fB _ 3 hlt3).trans hd3
      refine wpOp_val rfl (wanted_yes rfl (hF.yes 24 57 (by kernel_rfl) true q24)) ?_ (fK (.string s) fW (Below.refl _ _) (by rw [hT]; exact rfl))
      clear fK hE hF
      go_simp
    refine stepsAll_cons (k := 28) ?_ ?_
    · intro fa fx fW hF fB hE K fK
      have q24 : fx 24 = .bool true := by have q := hE ⟨24, .chain⟩ (by simp) rfl; rw [hT] at q; exact q
      have q25 : fx 25 = .slice A3 n c3 := by have q := hE ⟨25, .data⟩ (by simp) rfl; rw [hT] at q; exact q
      have q27 : fx 27 = .string s := by have q := hE ⟨27, .data⟩ (by simp) rfl; rw [hT] at q; exact q
      have ev58 : fa.tmps[58]?.getD undef = .slice A3 n c3 := (hF.ev 25 58 (by kernel_rfl)).trans q25
      have ev60 : fa.tmps[60]?.getD undef = .string s := (hF.ev 27 60 (by kernel_rfl)).trans q27
      refine wpOp_call rfl (wanted_yes rfl (hF.yes 24 57 (by kernel_rfl) true q24)) (by go_simp; exact ⟨rfl, rfl⟩) ?_
      refine (ctext _ _ _ _ _ (by omega) _ (hr5.below fB) (by omega)).mono ?_
      intro e w1 h1
      obtain ⟨A1, n1, c1, rfl, _, hr1, hb1, _⟩ := h1.open_
      exact ⟨_, rfl, fK (.slice A1 n1 c1) (w1) (hb1) (by rw [hT]; exact ⟨A1, n1, c1, rfl, hr1⟩)⟩
    refine stepsAll_cons (k := 29) ?_ ?_
    · intro fa fx fW hF fB hE K fK
      have q24 : fx 24 = .bool true := by have q := hE ⟨24, .guard⟩ (by simp) rfl; rw [hT] at q; exact q
      have q28 : (Fact.row 1 (nums .u8 (bs ++ enc s.size ++ bytesOf s))).p (fx 28) fW := by have q := hE ⟨28, .data⟩ (by simp) rfl; rw [hT] at q; exact q
      have ev61 : fa.tmps[61]?.getD undef = fx 28 := hF.ev 28 61 (by kernel_rfl)
      refine wpOp_val rfl (wanted_yes rfl (hF.yes 24 57 (by kernel_rfl) true q24)) ?_ (fK (.string (strOfNums (bs ++ enc s.size ++ bytesOf s))) fW (Below.refl _ _) (by rw [hT]; exact rfl))
      clear fK hE hF
      obtain ⟨A', n', c', e', hr'⟩ := q28
      have hc' := conv_str Try.underlying22 Try.underlying5 Try.underlying9 hr'
      clear hr'
      go_simp
    refine stepsAll_cons (k := 30) ?_ ?_
    · intro fa fx fW hF fB hE K fK
      have q24 : fx 24 = .bool true := by have q := hE ⟨24, .guard⟩ (by simp) rfl; rw [hT] at q; exact q
      have ev0 : fa.tmps[0]?.getD undef = .slice A n c := hF.eo 0 (by kernel_rfl)
      refine wpOp_val rfl (wanted_yes rfl (hF.yes 24 57 (by kernel_rfl) true q24)) ?_ (fK (.slice A n c) fW (Below.refl _ _) (by rw [hT]; exact rfl))
      clear fK hE hF
      go_simp
    refine stepsAll_cons (k := 31) ?_ ?_
    · intro fa fx fW hF fB hE K fK
      have q24 : fx 24 = .bool true := by have q := hE ⟨24, .guard⟩ (by simp) rfl; rw [hT] at q; exact q
      have ev3 : fa.tmps[3]?.getD undef = .pointer (some ⟨w.heap.size, 0, none⟩) := hF.eo 3 (by kernel_rfl)
      refine wpOp_val rfl (wanted_yes rfl (hF.yes 24 57 (by kernel_rfl) true q24)) ?_ (fK (.pointer (some ⟨w.heap.size, 3, none⟩)) fW (Below.refl _ _) (by rw [hT]; exact rfl))
      clear fK hE hF
      go_simp
    refine stepsAll_cons (k := 32) ?_ ?_
    · intro fa fx fW hF fB hE K fK
      have q24 : fx 24 = .bool true := by have q := hE ⟨24, .guard⟩ (by simp) rfl; rw [hT] at q; exact q
      have q31 : fx 31 = .pointer (some ⟨w.heap.size, 3, none⟩) := by have q := hE ⟨31, .data⟩ (by simp) rfl; rw [hT] at q; exact q
      have ev64 : fa.tmps[64]?.getD undef = .pointer (some ⟨w.heap.size, 3, none⟩) := (hF.ev 31 64 (by kernel_rfl)).trans q31
      have hm := (bcell fB _ 3 hlt3).trans hd3
      refine wpOp_val rfl (wanted_yes rfl (hF.yes 24 57 (by kernel_rfl) true q24)) ?_ (fK (.string s) fW (Below.refl _ _) (by rw [hT]; exact rfl))
      clear fK hE hF
      go_simp
    refine stepsAll_cons (k := 33) ?_ ?_
    · intro fa fx fW hF fB hE K fK
      have q24 : fx 24 = .bool true := by have q := hE ⟨24, .guard⟩ (by simp) rfl; rw [hT] at q; exact q
      have q30 : fx 30 = .slice A n c := by have q := hE ⟨30, .data⟩ (by simp) rfl; rw [hT] at q; exact q
      have q32 : fx 32 = .string s := by have q := hE ⟨32, .data⟩ (by simp) rfl; rw [hT] at q; exact q
      have ev63 : fa.tmps[63]?.getD undef = .slice A n c := (hF.ev 30 63 (by kernel_rfl)).trans q30
      have ev65 : fa.tmps[65]?.getD undef = .string s := (hF.ev 32 65 (by kernel_rfl)).trans q32
      refine wpOp_call rfl (wanted_yes rfl (hF.yes 24 57 (by kernel_rfl) true q24)) (by go_simp; exact ⟨rfl, rfl⟩) ?_
      refine (rtext _ _ _ _ _ (by omega) _ (hrA.below fB) (by omega)).mono ?_
      intro e w1 h1
      obtain ⟨A1, n1, c1, rfl, _, hr1, hb1, _⟩ := h1.open_
      exact ⟨_, rfl, fK (.slice A1 n1 c1) (w1) (hb1) (by rw [hT]; exact ⟨A1, n1, c1, rfl, hr1⟩)⟩
    refine stepsAll_cons (k := 34) ?_ ?_
    · intro fa fx fW hF fB hE K fK
      have q24 : fx 24 = .bool true := by have q := hE ⟨24, .guard⟩ (by simp) rfl; rw [hT] at q; exact q
      have q33 : (Fact.row 1 (nums .u8 (bs ++ enc s.size ++ bytesOf s))).p (fx 33) fW := by have q := hE ⟨33, .data⟩ (by simp) rfl; rw [hT] at q; exact q
      have ev66 : fa.tmps[66]?.getD undef = fx 33 := hF.ev 33 66 (by kernel_rfl)
      refine wpOp_val rfl (wanted_yes rfl (hF.yes 24 57 (by kernel_rfl) true q24)) ?_ (fK (.string (strOfNums (bs ++ enc s.size ++ bytesOf s))) fW (Below.refl _ _) (by rw [hT]; exact rfl))
      clear fK hE hF
      obtain ⟨A', n', c', e', hr'⟩ := q33
      have hc' := conv_str Try.underlying22 Try.underlying5 Try.underlying9 hr'
      clear hr'
      go_simp
    refine stepsAll_cons (k := 35) ?_ ?_
    · intro fa fx fW hF fB hE K fK
      have q24 : fx 24 = .bool true := by have q := hE ⟨24, .guard⟩ (by simp) rfl; rw [hT] at q; exact q
      have q29 : fx 29 = .string (strOfNums (bs ++ enc s.size ++ bytesOf s)) := by have q := hE ⟨29, .data⟩ (by simp) rfl; rw [hT] at q; exact q
      have q34 : fx 34 = .string (strOfNums (bs ++ enc s.size ++ bytesOf s)) := by have q := hE ⟨34, .data⟩ (by simp) rfl; rw [hT] at q; exact q
      have ev62 : fa.tmps[62]?.getD undef = .string (strOfNums (bs ++ enc s.size ++ bytesOf s)) := (hF.ev 29 62 (by kernel_rfl)).trans q29
      have ev67 : fa.tmps[67]?.getD undef = .string (strOfNums (bs ++ enc s.size ++ bytesOf s)) := (hF.ev 34 67 (by kernel_rfl)).trans q34
      refine wpOp_val rfl (wanted_yes rfl (hF.yes 24 57 (by kernel_rfl) true q24)) ?_ (fK (.bool true) fW (Below.refl _ _) (by rw [hT]; exact rfl))
      clear fK hE hF
      go_simp
    refine stepsAll_cons (k := 36) ?_ ?_
    · intro fa fx fW hF fB hE K fK
      have q24 : fx 24 = .bool true := by have q := hE ⟨24, .data⟩ (by simp) rfl; rw [hT] at q; exact q
      have q35 : fx 35 = .bool true := by have q := hE ⟨35, .data⟩ (by simp) rfl; rw [hT] at q; exact q
      have ev57 : fa.tmps[57]?.getD undef = .bool true := (hF.ev 24 57 (by kernel_rfl)).trans q24
      have ev68 : fa.tmps[68]?.getD undef = .bool true := (hF.ev 35 68 (by kernel_rfl)).trans q35
      refine wpOp_val rfl (wanted_none rfl) ?_ (fK (.bool true) fW (Below.refl _ _) (by rw [hT]; exact rfl))
      clear fK hE hF
      go_simp
    refine stepsAll_cons (k := 37) ?_ ?_
    · intro fa fx fW hF fB hE K fK
      have q36 : fx 36 = .bool true := by have q := hE ⟨36, .data⟩ (by simp) rfl; rw [hT] at q; exact q
      have ev69 : fa.tmps[69]?.getD undef = .bool true := (hF.ev 36 69 (by kernel_rfl)).trans q36
      refine wpOp_val rfl (wanted_none rfl) ?_ (fK (.bool true) fW (Below.refl _ _) (by rw [hT]; exact rfl))
      clear fK hE hF
      go_simp
    refine stepsAll_cons (k := 38) ?_ ?_
    · intro fa fx fW hF fB hE K fK
      have q37 : fx 37 = .bool true := by have q := hE ⟨37, .guard⟩ (by simp) rfl; rw [hT] at q; exact q
      have ev5 : fa.tmps[5]?.getD undef = .slice A3 n c3 := hF.eo 5 (by kernel_rfl)
      refine wpOp_val rfl (wanted_yes rfl (hF.yes 37 70 (by kernel_rfl) true q37)) ?_ (fK (.slice A3 n c3) fW (Below.refl _ _) (by rw [hT]; exact rfl))
      clear fK hE hF
      go_simp
    refine stepsAll_cons (k := 39) ?_ ?_
    · intro fa fx fW hF fB hE K fK
      have q37 : fx 37 = .bool true := by have q := hE ⟨37, .guard⟩ (by simp) rfl; rw [hT] at q; exact q
      have ev3 : fa.tmps[3]?.getD undef = .pointer (some ⟨w.heap.size, 0, none⟩) := hF.eo 3 (by kernel_rfl)
      refine wpOp_val rfl (wanted_yes rfl (hF.yes 37 70 (by kernel_rfl) true q37)) ?_ (fK (.pointer (some ⟨w.heap.size, 0, none⟩)) fW (Below.refl _ _) (by rw [hT]; exact rfl))
      clear fK hE hF
      go_simp
    refine stepsAll_cons (k := 40) ?_ ?_
    · intro fa fx fW hF fB hE K fK
      have q37 : fx 37 = .bool true := by have q := hE ⟨37, .guard⟩ (by simp) rfl; rw [hT] at q; exact q
      have q39 : fx 39 = .pointer (some ⟨w.heap.size, 0, none⟩) := by have q := hE ⟨39, .data⟩ (by simp) rfl; rw [hT] at q; exact q
      have ev72 : fa.tmps[72]?.getD undef = .pointer (some ⟨w.heap.size, 0, none⟩) := (hF.ev 39 72 (by kernel_rfl)).trans q39
      have hm := (bcell fB _ 0 hlt3).trans hd0
      refine wpOp_val rfl (wanted_yes rfl (hF.yes 37 70 (by kernel_rfl) true q37)) ?_ (fK (.int .i64 k) fW (Below.refl _ _) (by rw [hT]; exact rfl))
      clear fK hE hF
      go_simp
    refine stepsAll_cons (k := 41) ?_ ?_
    · intro fa fx fW hF fB hE K fK
      have q37 : fx 37 = .bool true := by have q := hE ⟨37, .guard⟩ (by simp) rfl; rw [hT] at q; exact q
      have q40 : fx 40 = .int .i64 k := by have q := hE ⟨40, .data⟩ (by simp) rfl; rw [hT] at q; exact q
      have ev73 : fa.tmps[73]?.getD undef = .int .i64 k := (hF.ev 40 73 (by kernel_rfl)).trans q40
      refine wpOp_val rfl (wanted_yes rfl (hF.yes 37 70 (by kernel_rfl) true q37)) ?_ (fK (.bool (k == 1)) fW (Below.refl _ _) (by rw [hT]; exact rfl))
      clear fK hE hF
      go_simp
    refine stepsAll_cons (k := 42) ?_ ?_
    · intro fa fx fW hF fB hE K fK
      have q37 : fx 37 = .bool true := by have q := hE ⟨37, .chain⟩ (by simp) rfl; rw [hT] at q; exact q
      have q38 : fx 38 = .slice A3 n c3 := by have q := hE ⟨38, .data⟩ (by simp) rfl; rw [hT] at q; exact q
      have q41 : fx 41 = .bool (k == 1) := by have q := hE ⟨41, .data⟩ (by simp) rfl; rw [hT] at q; exact q
      have ev71 : fa.tmps[71]?.getD undef = .slice A3 n c3 := (hF.ev 38 71 (by kernel_rfl)).trans q38
      have ev74 : fa.tmps[74]?.getD undef = .bool (k == 1) := (hF.ev 41 74 (by kernel_rfl)).trans q41
      refine wpOp_call rfl (wanted_yes rfl (hF.yes 37 70 (by kernel_rfl) true q37)) (by go_simp; exact ⟨rfl, rfl⟩) ?_
      refine (cflag _ _ _ _ _ _ (hr5.below fB) (by omega)).mono ?_
      intro e w1 h1
      obtain ⟨A1, n1, c1, rfl, _, hr1, hb1, _⟩ := h1.open_
      exact ⟨_, rfl, fK (.slice A1 n1 c1) (w1) (hb1) (by rw [hT]; exact ⟨A1, n1, c1, rfl, hr1⟩)⟩
    refine stepsAll_cons (k := 43) ?_ ?_
    · intro fa fx fW hF fB hE K fK
      have q37 : fx 37 = .bool true := by have q := hE ⟨37, .guard⟩ (by simp) rfl; rw [hT] at q; exact q
      have q42 : (Fact.row 1 (nums .u8 (bs ++ [flagN (k == 1)]))).p (fx 42) fW := by have q := hE ⟨42, .data⟩ (by simp) rfl; rw [hT] at q; exact q
      have ev75 : fa.tmps[75]?.getD undef = fx 42 := hF.ev 42 75 (by kernel_rfl)
      refine wpOp_val rfl (wanted_yes rfl (hF.yes 37 70 (by kernel_rfl) true q37)) ?_ (fK (.string (strOfNums (bs ++ [flagN (k == 1)]))) fW (Below.refl _ _) (by rw [hT]; exact rfl))
      clear fK hE hF
      obtain ⟨A', n', c', e', hr'⟩ := q42
      have hc' := conv_str Try.underlying22 Try.underlying5 Try.underlying9 hr'
      clear hr'
      go_simp
    refine stepsAll_cons (k := 44) ?_ ?_
    · intro fa fx fW hF fB hE K fK
      have q37 : fx 37 = .bool true := by have q := hE ⟨37, .guard⟩ (by simp) rfl; rw [hT] at q; exact q
      have ev0 : fa.tmps[0]?.getD undef = .slice A n c := hF.eo 0 (by kernel_rfl)
      refine wpOp_val rfl (wanted_yes rfl (hF.yes 37 70 (by kernel_rfl) true q37)) ?_ (fK (.slice A n c) fW (Below.refl _ _) (by rw [hT]; exact rfl))
      clear fK hE hF
      go_simp
    refine stepsAll_cons (k := 45) ?_ ?_
    · intro fa fx fW hF fB hE K fK
      have q37 : fx 37 = .bool true := by have q := hE ⟨37, .guard⟩ (by simp) rfl; rw [hT] at q; exact q
      have ev3 : fa.tmps[3]?.getD undef = .pointer (some ⟨w.heap.size, 0, none⟩) := hF.eo 3 (by kernel_rfl)
      refine wpOp_val rfl (wanted_yes rfl (hF.yes 37 70 (by kernel_rfl) true q37)) ?_ (fK (.pointer (some ⟨w.heap.size, 0, none⟩)) fW (Below.refl _ _) (by rw [hT]; exact rfl))
      clear fK hE hF
      go_simp
    refine stepsAll_cons (k := 46) ?_ ?_
    · intro fa fx fW hF fB hE K fK
      have q37 : fx 37 = .bool true := by have q := hE ⟨37, .guard⟩ (by simp) rfl; rw [hT] at q; exact q
      have q45 : fx 45 = .pointer (some ⟨w.heap.size, 0, none⟩) := by have q := hE ⟨45, .data⟩ (by simp) rfl; rw [hT] at q; exact q
      have ev78 : fa.tmps[78]?.getD undef = .pointer (some ⟨w.heap.size, 0, none⟩) := (hF.ev 45 78 (by kernel_rfl)).trans q45
      have hm := (bcell fB _ 0 hlt3).trans hd0
      refine wpOp_val rfl (wanted_yes rfl (hF.yes 37 70 (by kernel_rfl) true q37)) ?_ (fK (.int .i64 k) fW (Below.refl _ _) (by rw [hT]; exact rfl))
      clear fK hE hF
      go_simp
    refine stepsAll_cons (k := 47) ?_ ?_
    · intro fa fx fW hF fB hE K fK
      have q37 : fx 37 = .bool true := by have q := hE ⟨37, .guard⟩ (by simp) rfl; rw [hT] at q; exact q
      have q46 : fx 46 = .int .i64 k := by have q := hE ⟨46, .data⟩ (by simp) rfl; rw [hT] at q; exact q
      have ev79 : fa.tmps[79]?.getD undef = .int .i64 k := (hF.ev 46 79 (by kernel_rfl)).trans q46
      refine wpOp_val rfl (wanted_yes rfl (hF.yes 37 70 (by kernel_rfl) true q37)) ?_ (fK (.bool (k == 1)) fW (Below.refl _ _) (by rw [hT]; exact rfl))
      clear fK hE hF
      go_simp
    refine stepsAll_cons (k := 48) ?_ ?_
    · intro fa fx fW hF fB hE K fK
      have q37 : fx 37 = .bool true := by have q := hE ⟨37, .guard⟩ (by simp) rfl; rw [hT] at q; exact q
      have q44 : fx 44 = .slice A n c := by have q := hE ⟨44, .data⟩ (by simp) rfl; rw [hT] at q; exact q
      have q47 : fx 47 = .bool (k == 1) := by have q := hE ⟨47, .data⟩ (by simp) rfl; rw [hT] at q; exact q
      have ev77 : fa.tmps[77]?.getD undef = .slice A n c := (hF.ev 44 77 (by kernel_rfl)).trans q44
      have ev80 : fa.tmps[80]?.getD undef = .bool (k == 1) := (hF.ev 47 80 (by kernel_rfl)).trans q47
      refine wpOp_call rfl (wanted_yes rfl (hF.yes 37 70 (by kernel_rfl) true q37)) (by go_simp; exact ⟨rfl, rfl⟩) ?_
      refine (rflag _ _ _ _ _ _ (hrA.below fB) (by omega)).mono ?_
      intro e w1 h1
      obtain ⟨A1, n1, c1, rfl, _, hr1, hb1, _⟩ := h1.open_
      exact ⟨_, rfl, fK (.slice A1 n1 c1) (w1) (hb1) (by rw [hT]; exact ⟨A1, n1, c1, rfl, hr1⟩)⟩
    refine stepsAll_cons (k := 49) ?_ ?_
    · intro fa fx fW hF fB hE K fK
      have q37 : fx 37 = .bool true := by have q := hE ⟨37, .guard⟩ (by simp) rfl; rw [hT] at q; exact q
      have q48 : (Fact.row 1 (nums .u8 (bs ++ [flagN (k == 1)]))).p (fx 48) fW := by have q := hE ⟨48, .data⟩ (by simp) rfl; rw [hT] at q; exact q
      have ev81 : fa.tmps[81]?.getD undef = fx 48 := hF.ev 48 81 (by kernel_rfl)
      refine wpOp_val rfl (wanted_yes rfl (hF.yes 37 70 (by kernel_rfl) true q37)) ?_ (fK (.string (strOfNums (bs ++ [flagN (k == 1)]))) fW (Below.refl _ _) (by rw [hT]; exact rfl))
      clear fK hE hF
      obtain ⟨A', n', c', e', hr'⟩ := q48
      have hc' := conv_str Try.underlying22 Try.underlying5 Try.underlying9 hr'
      clear hr'
      go_simp
    refine stepsAll_cons (k := 50) ?_ ?_
    · intro fa fx fW hF fB hE K fK
      have q37 : fx 37 = .bool true := by have q := hE ⟨37, .guard⟩ (by simp) rfl; rw [hT] at q; exact q
      have q43 : fx 43 = .string (strOfNums (bs ++ [flagN (k == 1)])) := by have q := hE ⟨43, .data⟩ (by simp) rfl; rw [hT] at q; exact q
      have q49 : fx 49 = .string (strOfNums (bs ++ [flagN (k == 1)])) := by have q := hE ⟨49, .data⟩ (by simp) rfl; rw [hT] at q; exact q
      have ev76 : fa.tmps[76]?.getD undef = .string (strOfNums (bs ++ [flagN (k == 1)])) := (hF.ev 43 76 (by kernel_rfl)).trans q43
      have ev82 : fa.tmps[82]?.getD undef = .string (strOfNums (bs ++ [flagN (k == 1)])) := (hF.ev 49 82 (by kernel_rfl)).trans q49
      refine wpOp_val rfl (wanted_yes rfl (hF.yes 37 70 (by kernel_rfl) true q37)) ?_ (fK (.bool true) fW (Below.refl _ _) (by rw [hT]; exact rfl))
      clear fK hE hF
      go_simp
    refine stepsAll_cons (k := 51) ?_ ?_
    · intro fa fx fW hF fB hE K fK
      have q37 : fx 37 = .bool true := by have q := hE ⟨37, .data⟩ (by simp) rfl; rw [hT] at q; exact q
      have q50 : fx 50 = .bool true := by have q := hE ⟨50, .data⟩ (by simp) rfl; rw [hT] at q; exact q
      have ev70 : fa.tmps[70]?.getD undef = .bool true := (hF.ev 37 70 (by kernel_rfl)).trans q37
      have ev83 : fa.tmps[83]?.getD undef = .bool true := (hF.ev 50 83 (by kernel_rfl)).trans q50
      refine wpOp_val rfl (wanted_none rfl) ?_ (fK (.bool true) fW (Below.refl _ _) (by rw [hT]; exact rfl))
      clear fK hE hF
      go_simp
    refine stepsAll_cons (k := 52) ?_ ?_
    · intro fa fx fW hF fB hE K fK
      have q51 : fx 51 = .bool true := by have q := hE ⟨51, .data⟩ (by simp) rfl; rw [hT] at q; exact q
      have ev84 : fa.tmps[84]?.getD undef = .bool true := (hF.ev 51 84 (by kernel_rfl)).trans q51
      refine wpOp_val rfl (wanted_none rfl) ?_ (fK (.bool true) fW (Below.refl _ _) (by rw [hT]; exact rfl))
      clear fK hE hF
      go_simp
    refine stepsAll_cons (k := 53) ?_ ?_
    · intro fa fx fW hF fB hE K fK
      have q52 : fx 52 = .bool true := by have q := hE ⟨52, .guard⟩ (by simp) rfl; rw [hT] at q; exact q
      have ev5 : fa.tmps[5]?.getD undef = .slice A3 n c3 := hF.eo 5 (by kernel_rfl)
      refine wpOp_val rfl (wanted_yes rfl (hF.yes 52 85 (by kernel_rfl) true q52)) ?_ (fK (.slice A3 n c3) fW (Below.refl _ _) (by rw [hT]; exact rfl))
      clear fK hE hF
      go_simp
    refine stepsAll_cons (k := 54) ?_ ?_
    · intro fa fx fW hF fB hE K fK
      have q52 : fx 52 = .bool true := by have q := hE ⟨52, .guard⟩ (by simp) rfl; rw [hT] at q; exact q
      have ev3 : fa.tmps[3]?.getD undef = .pointer (some ⟨w.heap.size, 0, none⟩) := hF.eo 3 (by kernel_rfl)
      refine wpOp_val rfl (wanted_yes rfl (hF.yes 52 85 (by kernel_rfl) true q52)) ?_ (fK (.pointer (some ⟨w.heap.size, 4, none⟩)) fW (Below.refl _ _) (by rw [hT]; exact rfl))
      clear fK hE hF
      go_simp
    refine stepsAll_cons (k := 55) ?_ ?_
    · intro fa fx fW hF fB hE K fK
      have q52 : fx 52 = .bool true := by have q := hE ⟨52, .guard⟩ (by simp) rfl; rw [hT] at q; exact q
      have q54 : fx 54 = .pointer (some ⟨w.heap.size, 4, none⟩) := by have q := hE ⟨54, .data⟩ (by simp) rfl; rw [hT] at q; exact q
      have ev87 : fa.tmps[87]?.getD undef = .pointer (some ⟨w.heap.size, 4, none⟩) := (hF.ev 54 87 (by kernel_rfl)).trans q54
      have hm := (bcell fB _ 4 hlt3).trans hd4
      refine wpOp_val rfl (wanted_yes rfl (hF.yes 52 85 (by kernel_rfl) true q52)) ?_ (fK (.slice B m d) fW (Below.refl _ _) (by rw [hT]; exact rfl))
      clear fK hE hF
      go_simp
    refine stepsAll_cons (k := 56) ?_ ?_
    · intro fa fx fW hF fB hE K fK
      have q52 : fx 52 = .bool true := by have q := hE ⟨52, .chain⟩ (by simp) rfl; rw [hT] at q; exact q
      have q53 : fx 53 = .slice A3 n c3 := by have q := hE ⟨53, .data⟩ (by simp) rfl; rw [hT] at q; exact q
      have q55 : fx 55 = .slice B m d := by have q := hE ⟨55, .data⟩ (by simp) rfl; rw [hT] at q; exact q
      have ev86 : fa.tmps[86]?.getD undef = .slice A3 n c3 := (hF.ev 53 86 (by kernel_rfl)).trans q53
      have ev88 : fa.tmps[88]?.getD undef = .slice B m d := (hF.ev 55 88 (by kernel_rfl)).trans q55
      refine wpOp_call rfl (wanted_yes rfl (hF.yes 52 85 (by kernel_rfl) true q52)) (by go_simp; exact ⟨rfl, rfl⟩) ?_
      refine (cints _ _ _ _ _ _ _ _ HXS.out _ (hr5.below fB) (hrX.below fB) (by omega) (by omega)).mono ?_
      intro e w1 h1
      obtain ⟨A1, n1, c1, rfl, _, hr1, hb1, _⟩ := h1.open_
      exact ⟨_, rfl, fK (.slice A1 n1 c1) (w1) (hb1) (by rw [hT]; exact ⟨A1, n1, c1, rfl, hr1⟩)⟩
    refine stepsAll_cons (k := 57) ?_ ?_
    · intro fa fx fW hF fB hE K fK
      have q52 : fx 52 = .bool true := by have q := hE ⟨52, .guard⟩ (by simp) rfl; rw [hT] at q; exact q
      have q56 : (Fact.row 1 (nums .u8 (bs ++ enc m ++ encs xs))).p (fx 56) fW := by have q := hE ⟨56, .data⟩ (by simp) rfl; rw [hT] at q; exact q
      have ev89 : fa.tmps[89]?.getD undef = fx 56 := hF.ev 56 89 (by kernel_rfl)
      refine wpOp_val rfl (wanted_yes rfl (hF.yes 52 85 (by kernel_rfl) true q52)) ?_ (fK (.string (strOfNums (bs ++ enc m ++ encs xs))) fW (Below.refl _ _) (by rw [hT]; exact rfl))
      clear fK hE hF
      obtain ⟨A', n', c', e', hr'⟩ := q56
      have hc' := conv_str Try.underlying22 Try.underlying5 Try.underlying9 hr'
      clear hr'
      go_simp
    refine stepsAll_cons (k := 58) ?_ ?_
    · intro fa fx fW hF fB hE K fK
      have q52 : fx 52 = .bool true := by have q := hE ⟨52, .guard⟩ (by simp) rfl; rw [hT] at q; exact q
      have ev0 : fa.tmps[0]?.getD undef = .slice A n c := hF.eo 0 (by kernel_rfl)
      refine wpOp_val rfl (wanted_yes rfl (hF.yes 52 85 (by kernel_rfl) true q52)) ?_ (fK (.slice A n c) fW (Below.refl _ _) (by rw [hT]; exact rfl))
      clear fK hE hF
      go_simp
    refine stepsAll_cons (k := 59) ?_ ?_
    · intro fa fx fW hF fB hE K fK
      have q52 : fx 52 = .bool true := by have q := hE ⟨52, .guard⟩ (by simp) rfl; rw [hT] at q; exact q
      have ev3 : fa.tmps[3]?.getD undef = .pointer (some ⟨w.heap.size, 0, none⟩) := hF.eo 3 (by kernel_rfl)
      refine wpOp_val rfl (wanted_yes rfl (hF.yes 52 85 (by kernel_rfl) true q52)) ?_ (fK (.pointer (some ⟨w.heap.size, 4, none⟩)) fW (Below.refl _ _) (by rw [hT]; exact rfl))
      clear fK hE hF
      go_simp
    refine stepsAll_cons (k := 60) ?_ ?_
    · intro fa fx fW hF fB hE K fK
      have q52 : fx 52 = .bool true := by have q := hE ⟨52, .guard⟩ (by simp) rfl; rw [hT] at q; exact q
      have q59 : fx 59 = .pointer (some ⟨w.heap.size, 4, none⟩) := by have q := hE ⟨59, .data⟩ (by simp) rfl; rw [hT] at q; exact q
      have ev92 : fa.tmps[92]?.getD undef = .pointer (some ⟨w.heap.size, 4, none⟩) := (hF.ev 59 92 (by kernel_rfl)).trans q59
      have hm := (bcell fB _ 4 hlt3).trans hd4
      refine wpOp_val rfl (wanted_yes rfl (hF.yes 52 85 (by kernel_rfl) true q52)) ?_ (fK (.slice B m d) fW (Below.refl _ _) (by rw [hT]; exact rfl))
      clear fK hE hF
      go_simp
    refine stepsAll_cons (k := 61) ?_ ?_
    · intro fa fx fW hF fB hE K fK
      have q52 : fx 52 = .bool true := by have q := hE ⟨52, .guard⟩ (by simp) rfl; rw [hT] at q; exact q
      have q58 : fx 58 = .slice A n c := by have q := hE ⟨58, .data⟩ (by simp) rfl; rw [hT] at q; exact q
      have q60 : fx 60 = .slice B m d := by have q := hE ⟨60, .data⟩ (by simp) rfl; rw [hT] at q; exact q
      have ev91 : fa.tmps[91]?.getD undef = .slice A n c := (hF.ev 58 91 (by kernel_rfl)).trans q58
      have ev93 : fa.tmps[93]?.getD undef = .slice B m d := (hF.ev 60 93 (by kernel_rfl)).trans q60
      refine wpOp_call rfl (wanted_yes rfl (hF.yes 52 85 (by kernel_rfl) true q52)) (by go_simp; exact ⟨rfl, rfl⟩) ?_
      refine (rints _ _ _ _ _ _ _ _ HXS.out _ (hrA.below fB) (hrX.below fB) (by omega) (by omega)).mono ?_
      intro e w1 h1
      obtain ⟨A1, n1, c1, rfl, _, hr1, hb1, _⟩ := h1.open_
      exact ⟨_, rfl, fK (.slice A1 n1 c1) (w1) (hb1) (by rw [hT]; exact ⟨A1, n1, c1, rfl, hr1⟩)⟩
    refine stepsAll_cons (k := 62) ?_ ?_
    · intro fa fx fW hF fB hE K fK
      have q52 : fx 52 = .bool true := by have q := hE ⟨52, .guard⟩ (by simp) rfl; rw [hT] at q; exact q
      have q61 : (Fact.row 1 (nums .u8 (bs ++ enc m ++ encs xs))).p (fx 61) fW := by have q := hE ⟨61, .data⟩ (by simp) rfl; rw [hT] at q; exact q
      have ev94 : fa.tmps[94]?.getD undef = fx 61 := hF.ev 61 94 (by kernel_rfl)
      refine wpOp_val rfl (wanted_yes rfl (hF.yes 52 85 (by kernel_rfl) true q52)) ?_ (fK (.string (strOfNums (bs ++ enc m ++ encs xs))) fW (Below.refl _ _) (by rw [hT]; exact rfl))
      clear fK hE hF
      obtain ⟨A', n', c', e', hr'⟩ := q61
      have hc' := conv_str Try.underlying22 Try.underlying5 Try.underlying9 hr'
      clear hr'
      go_simp
    refine stepsAll_cons (k := 63) ?_ ?_
    · intro fa fx fW hF fB hE K fK
      have q52 : fx 52 = .bool true := by have q := hE ⟨52, .guard⟩ (by simp) rfl; rw [hT] at q; exact q
      have q57 : fx 57 = .string (strOfNums (bs ++ enc m ++ encs xs)) := by have q := hE ⟨57, .data⟩ (by simp) rfl; rw [hT] at q; exact q
      have q62 : fx 62 = .string (strOfNums (bs ++ enc m ++ encs xs)) := by have q := hE ⟨62, .data⟩ (by simp) rfl; rw [hT] at q; exact q
      have ev90 : fa.tmps[90]?.getD undef = .string (strOfNums (bs ++ enc m ++ encs xs)) := (hF.ev 57 90 (by kernel_rfl)).trans q57
      have ev95 : fa.tmps[95]?.getD undef = .string (strOfNums (bs ++ enc m ++ encs xs)) := (hF.ev 62 95 (by kernel_rfl)).trans q62
      refine wpOp_val rfl (wanted_yes rfl (hF.yes 52 85 (by kernel_rfl) true q52)) ?_ (fK (.bool true) fW (Below.refl _ _) (by rw [hT]; exact rfl))
      clear fK hE hF
      go_simp
    refine stepsAll_cons (k := 64) ?_ ?_
    · intro fa fx fW hF fB hE K fK
      have q52 : fx 52 = .bool true := by have q := hE ⟨52, .data⟩ (by simp) rfl; rw [hT] at q; exact q
      have q63 : fx 63 = .bool true := by have q := hE ⟨63, .data⟩ (by simp) rfl; rw [hT] at q; exact q
      have ev85 : fa.tmps[85]?.getD undef = .bool true := (hF.ev 52 85 (by kernel_rfl)).trans q52
      have ev96 : fa.tmps[96]?.getD undef = .bool true := (hF.ev 63 96 (by kernel_rfl)).trans q63
      refine wpOp_val rfl (wanted_none rfl) ?_ (fK (.bool true) fW (Below.refl _ _) (by rw [hT]; exact rfl))
      clear fK hE hF
      go_simp
    refine stepsAll_cons (k := 65) ?_ ?_
    · intro fa fx fW hF fB hE K fK
      have q64 : fx 64 = .bool true := by have q := hE ⟨64, .data⟩ (by simp) rfl; rw [hT] at q; exact q
      have ev97 : fa.tmps[97]?.getD undef = .bool true := (hF.ev 64 97 (by kernel_rfl)).trans q64
      refine wpOp_val rfl (wanted_none rfl) ?_ (fK (.bool true) fW (Below.refl _ _) (by rw [hT]; exact rfl))
      clear fK hE hF
      go_simp
    exact stepsAll_nil
  intro fa fx fW hF fB hx
  have q65 : fx 65 = .bool true := by have q := hx 65 (by decide); rw [hT] at q; exact q
  have ev6 : fa.tmps[6]?.getD undef = .bool true := (hF.ev 65 6 (by kernel_rfl)).trans q65
  rw [hF.eq]
  clear hF hx
  simp only [putAll, Act.put, List.setIfInBounds_toArray, List.set_cons_zero, List.set_cons_succ, q65]
  clear q65 ev6
  have hr6 : Rds fW 1 A3 (n + 10) c3 (nums .u8 (bs ++ spare)) := by
    have e : n3 = n + 10 := by rw [HN3.out, List.nil_append, HN.out]; rfl
    rw [e] at hr3
    have e2 : nums .u8 ([] ++ bs) ++ Lib.strCells ⟨#[115, 112, 97, 114, 101, 32, 114, 111, 111, 109]⟩ = nums .u8 (bs ++ spare) := by rw [List.nil_append, strCells_nums, nums_append]; rfl
    rw [e2] at hr3
    exact hr3.below fB
  have hrA2 := hrA.below fB
  have hle6 : (n : Int) + 10 ≤ c3 := by have := hr6.le; omega
  have hW : Below w.heap.size w fW := below_tr (below_tr hB hbel3) fB
  clear hd0 hd1 hd2 hd3 hd4 hlt3 hT hr3 hrA hrX hr5 fB
  go_wp2
  obtain ⟨T, hT⟩ : ∃ T : Nat → Fact, ∀ t_, T t_ = ([Fact.eq (.bool true), Fact.eq (.bool true), Fact.eq (.slice A3 n c3), Fact.eq (.slice A n c), Fact.eq (.int .i64 n), Fact.eq (.int .i64 ((n : Int) + 10)), Fact.eq (.slice A3 (n + 10) c3), Fact.eq (.string (strOfNums (bs ++ spare))), Fact.eq (.slice A n c), Fact.eq (.string (strOfNums bs)), Fact.eq (.string (strOfNums (bs ++ spare))), Fact.eq (.bool true), Fact.eq (.bool true), Fact.eq (.bool true), Fact.eq (.bool true), Fact.eq (.bool true), Fact.eq (.bool true)] : List Fact).getD t_ Fact.any := ⟨_, fun _ => rfl⟩
  refine region_tab [(0, 98), (1, 99), (2, 100), (3, 101), (4, 102), (5, 103), (6, 104), (7, 105), (8, 106), (9, 107), (10, 108), (11, 109), (12, 110), (13, 111), (14, 112), (15, 113), (16, 4)] T (by kernel_rfl) (by kernel_rfl) (by kernel_rfl) (by kernel_rfl) (by kernel_rfl) ?_ ?_
  · skip
    refine stepsAll_cons (k := 0) ?_ ?_
    · intro fa fx fW hF fB hE K fK
      have ev6 : fa.tmps[6]?.getD undef = .bool true := hF.eo 6 (by kernel_rfl)
      refine wpOp_val rfl (wanted_none rfl) ?_ (fK (.bool true) fW (Below.refl _ _) (by rw [hT]; exact rfl))
      clear fK hE hF
      go_simp
    refine stepsAll_cons (k := 1) ?_ ?_
    · intro fa fx fW hF fB hE K fK
      have q0 : fx 0 = .bool true := by have q := hE ⟨0, .data⟩ (by simp) rfl; rw [hT] at q; exact q
      have ev98 : fa.tmps[98]?.getD undef = .bool true := (hF.ev 0 98 (by kernel_rfl)).trans q0
      refine wpOp_val rfl (wanted_none rfl) ?_ (fK (.bool true) fW (Below.refl _ _) (by rw [hT]; exact rfl))
      clear fK hE hF
      go_simp
    refine stepsAll_cons (k := 2) ?_ ?_
    · intro fa fx fW hF fB hE K fK
      have q1 : fx 1 = .bool true := by have q := hE ⟨1, .guard⟩ (by simp) rfl; rw [hT] at q; exact q
      have ev5 : fa.tmps[5]?.getD undef = .slice A3 n c3 := hF.eo 5 (by kernel_rfl)
      refine wpOp_val rfl (wanted_yes rfl (hF.yes 1 99 (by kernel_rfl) true q1)) ?_ (fK (.slice A3 n c3) fW (Below.refl _ _) (by rw [hT]; exact rfl))
      clear fK hE hF
      go_simp
    refine stepsAll_cons (k := 3) ?_ ?_
    · intro fa fx fW hF fB hE K fK
      have q1 : fx 1 = .bool true := by have q := hE ⟨1, .guard⟩ (by simp) rfl; rw [hT] at q; exact q
      have ev0 : fa.tmps[0]?.getD undef = .slice A n c := hF.eo 0 (by kernel_rfl)
      refine wpOp_val rfl (wanted_yes rfl (hF.yes 1 99 (by kernel_rfl) true q1)) ?_ (fK (.slice A n c) fW (Below.refl _ _) (by rw [hT]; exact rfl))
      clear fK hE hF
      go_simp
    refine stepsAll_cons (k := 4) ?_ ?_
    · intro fa fx fW hF fB hE K fK
      have q1 : fx 1 = .bool true := by have q := hE ⟨1, .guard⟩ (by simp) rfl; rw [hT] at q; exact q
      have q3 : fx 3 = .slice A n c := by have q := hE ⟨3, .data⟩ (by simp) rfl; rw [hT] at q; exact q
      have ev101 : fa.tmps[101]?.getD undef = .slice A n c := (hF.ev 3 101 (by kernel_rfl)).trans q3
      refine wpOp_val rfl (wanted_yes rfl (hF.yes 1 99 (by kernel_rfl) true q1)) ?_ (fK (.int .i64 n) fW (Below.refl _ _) (by rw [hT]; exact rfl))
      clear fK hE hF
      go_simp
    refine stepsAll_cons (k := 5) ?_ ?_
    · intro fa fx fW hF fB hE K fK
      have q1 : fx 1 = .bool true := by have q := hE ⟨1, .guard⟩ (by simp) rfl; rw [hT] at q; exact q
      have q4 : fx 4 = .int .i64 n := by have q := hE ⟨4, .data⟩ (by simp) rfl; rw [hT] at q; exact q
      have ev102 : fa.tmps[102]?.getD undef = .int .i64 n := (hF.ev 4 102 (by kernel_rfl)).trans q4
      refine wpOp_val rfl (wanted_yes rfl (hF.yes 1 99 (by kernel_rfl) true q1)) ?_ (fK (.int .i64 ((n : Int) + 10)) fW (Below.refl _ _) (by rw [hT]; exact rfl))
      clear fK hE hF
      go_simp
      exact IntWalk.i64_in _ (by omega)
    refine stepsAll_cons (k := 6) ?_ ?_
    · intro fa fx fW hF fB hE K fK
      have q1 : fx 1 = .bool true := by have q := hE ⟨1, .guard⟩ (by simp) rfl; rw [hT] at q; exact q
      have q2 : fx 2 = .slice A3 n c3 := by have q := hE ⟨2, .data⟩ (by simp) rfl; rw [hT] at q; exact q
      have q5 : fx 5 = .int .i64 ((n : Int) + 10) := by have q := hE ⟨5, .data⟩ (by simp) rfl; rw [hT] at q; exact q
      have ev100 : fa.tmps[100]?.getD undef = .slice A3 n c3 := (hF.ev 2 100 (by kernel_rfl)).trans q2
      have ev103 : fa.tmps[103]?.getD undef = .int .i64 ((n : Int) + 10) := (hF.ev 5 103 (by kernel_rfl)).trans q5
      refine wpOp_val rfl (wanted_yes rfl (hF.yes 1 99 (by kernel_rfl) true q1)) ?_ (fK (.slice A3 (n + 10) c3) fW (Below.refl _ _) (by rw [hT]; exact rfl))
      clear fK hE hF
      go_simp
      rw [if_pos (by omega), show ((n : Int) + 10).toNat = n + 10 from by omega]
    refine stepsAll_cons (k := 7) ?_ ?_
    · intro fa fx fW hF fB hE K fK
      have q1 : fx 1 = .bool true := by have q := hE ⟨1, .guard⟩ (by simp) rfl; rw [hT] at q; exact q
      have q6 : fx 6 = .slice A3 (n + 10) c3 := by have q := hE ⟨6, .data⟩ (by simp) rfl; rw [hT] at q; exact q
      have ev104 : fa.tmps[104]?.getD undef = .slice A3 (n + 10) c3 := (hF.ev 6 104 (by kernel_rfl)).trans q6
      have hc' := conv_str Try.underlying22 Try.underlying5 Try.underlying9 (hr6.below fB)
      refine wpOp_val rfl (wanted_yes rfl (hF.yes 1 99 (by kernel_rfl) true q1)) ?_ (fK (.string (strOfNums (bs ++ spare))) fW (Below.refl _ _) (by rw [hT]; exact rfl))
      clear fK hE hF
      go_simp
    refine stepsAll_cons (k := 8) ?_ ?_
    · intro fa fx fW hF fB hE K fK
      have q1 : fx 1 = .bool true := by have q := hE ⟨1, .guard⟩ (by simp) rfl; rw [hT] at q; exact q
      have ev0 : fa.tmps[0]?.getD undef = .slice A n c := hF.eo 0 (by kernel_rfl)
      refine wpOp_val rfl (wanted_yes rfl (hF.yes 1 99 (by kernel_rfl) true q1)) ?_ (fK (.slice A n c) fW (Below.refl _ _) (by rw [hT]; exact rfl))
      clear fK hE hF
      go_simp
    refine stepsAll_cons (k := 9) ?_ ?_
    · intro fa fx fW hF fB hE K fK
      have q1 : fx 1 = .bool true := by have q := hE ⟨1, .guard⟩ (by simp) rfl; rw [hT] at q; exact q
      have q8 : fx 8 = .slice A n c := by have q := hE ⟨8, .data⟩ (by simp) rfl; rw [hT] at q; exact q
      have ev106 : fa.tmps[106]?.getD undef = .slice A n c := (hF.ev 8 106 (by kernel_rfl)).trans q8
      have hc' := conv_str Try.underlying22 Try.underlying5 Try.underlying9 (hrA2.below fB)
      refine wpOp_val rfl (wanted_yes rfl (hF.yes 1 99 (by kernel_rfl) true q1)) ?_ (fK (.string (strOfNums bs)) fW (Below.refl _ _) (by rw [hT]; exact rfl))
      clear fK hE hF
      go_simp
    refine stepsAll_cons (k := 10) ?_ ?_
    · intro fa fx fW hF fB hE K fK
      have q1 : fx 1 = .bool true := by have q := hE ⟨1, .guard⟩ (by simp) rfl; rw [hT] at q; exact q
      have q9 : fx 9 = .string (strOfNums bs) := by have q := hE ⟨9, .data⟩ (by simp) rfl; rw [hT] at q; exact q
      have ev107 : fa.tmps[107]?.getD undef = .string (strOfNums bs) := (hF.ev 9 107 (by kernel_rfl)).trans q9
      refine wpOp_val rfl (wanted_yes rfl (hF.yes 1 99 (by kernel_rfl) true q1)) ?_ (fK (.string (strOfNums (bs ++ spare))) fW (Below.refl _ _) (by rw [hT]; exact rfl))
      clear fK hE hF
      go_simp
      rw [if_neg (by rw [strOfNums_size, HN.out]; omega), str_spare]
    refine stepsAll_cons (k := 11) ?_ ?_
    · intro fa fx fW hF fB hE K fK
      have q1 : fx 1 = .bool true := by have q := hE ⟨1, .guard⟩ (by simp) rfl; rw [hT] at q; exact q
      have q7 : fx 7 = .string (strOfNums (bs ++ spare)) := by have q := hE ⟨7, .data⟩ (by simp) rfl; rw [hT] at q; exact q
      have q10 : fx 10 = .string (strOfNums (bs ++ spare)) := by have q := hE ⟨10, .data⟩ (by simp) rfl; rw [hT] at q; exact q
      have ev105 : fa.tmps[105]?.getD undef = .string (strOfNums (bs ++ spare)) := (hF.ev 7 105 (by kernel_rfl)).trans q7
      have ev108 : fa.tmps[108]?.getD undef = .string (strOfNums (bs ++ spare)) := (hF.ev 10 108 (by kernel_rfl)).trans q10
      refine wpOp_val rfl (wanted_yes rfl (hF.yes 1 99 (by kernel_rfl) true q1)) ?_ (fK (.bool true) fW (Below.refl _ _) (by rw [hT]; exact rfl))
      clear fK hE hF
      go_simp
    refine stepsAll_cons (k := 12) ?_ ?_
    · intro fa fx fW hF fB hE K fK
      have q1 : fx 1 = .bool true := by have q := hE ⟨1, .data⟩ (by simp) rfl; rw [hT] at q; exact q
      have q11 : fx 11 = .bool true := by have q := hE ⟨11, .data⟩ (by simp) rfl; rw [hT] at q; exact q
      have ev99 : fa.tmps[99]?.getD undef = .bool true := (hF.ev 1 99 (by kernel_rfl)).trans q1
      have ev109 : fa.tmps[109]?.getD undef = .bool true := (hF.ev 11 109 (by kernel_rfl)).trans q11
      refine wpOp_val rfl (wanted_none rfl) ?_ (fK (.bool true) fW (Below.refl _ _) (by rw [hT]; exact rfl))
      clear fK hE hF
      go_simp
    refine stepsAll_cons (k := 13) ?_ ?_
    · intro fa fx fW hF fB hE K fK
      have q12 : fx 12 = .bool true := by have q := hE ⟨12, .data⟩ (by simp) rfl; rw [hT] at q; exact q
      have ev110 : fa.tmps[110]?.getD undef = .bool true := (hF.ev 12 110 (by kernel_rfl)).trans q12
      refine wpOp_val rfl (wanted_none rfl) ?_ (fK (.bool true) fW (Below.refl _ _) (by rw [hT]; exact rfl))
      clear fK hE hF
      go_simp
    refine stepsAll_cons (k := 14) ?_ ?_
    · intro fa fx fW hF fB hE K fK
      have q13 : fx 13 = .bool true := by have q := hE ⟨13, .chain⟩ (by simp) rfl; rw [hT] at q; exact q
      refine wpOp_call rfl (wanted_yes rfl (hF.yes 13 111 (by kernel_rfl) true q13)) (by go_simp; exact ⟨rfl, rfl⟩) ?_
      refine (lives07 _).mono ?_
      rintro e w1 ⟨rfl, hb1⟩
      exact ⟨_, rfl, fK (.bool true) (w1) (hb1) (by rw [hT]; exact rfl)⟩
    refine stepsAll_cons (k := 15) ?_ ?_
    · intro fa fx fW hF fB hE K fK
      have q13 : fx 13 = .bool true := by have q := hE ⟨13, .data⟩ (by simp) rfl; rw [hT] at q; exact q
      have q14 : fx 14 = .bool true := by have q := hE ⟨14, .data⟩ (by simp) rfl; rw [hT] at q; exact q
      have ev111 : fa.tmps[111]?.getD undef = .bool true := (hF.ev 13 111 (by kernel_rfl)).trans q13
      have ev112 : fa.tmps[112]?.getD undef = .bool true := (hF.ev 14 112 (by kernel_rfl)).trans q14
      refine wpOp_val rfl (wanted_none rfl) ?_ (fK (.bool true) fW (Below.refl _ _) (by rw [hT]; exact rfl))
      clear fK hE hF
      go_simp
    refine stepsAll_cons (k := 16) ?_ ?_
    · intro fa fx fW hF fB hE K fK
      have q15 : fx 15 = .bool true := by have q := hE ⟨15, .data⟩ (by simp) rfl; rw [hT] at q; exact q
      have ev113 : fa.tmps[113]?.getD undef = .bool true := (hF.ev 15 113 (by kernel_rfl)).trans q15
      refine wpOp_val rfl (wanted_none rfl) ?_ (fK (.bool true) fW (Below.refl _ _) (by rw [hT]; exact rfl))
      clear fK hE hF
      go_simp
    exact stepsAll_nil
  intro fa fx fW hF fB hx
  have q16 : fx 16 = .bool true := by have q := hx 16 (by decide); rw [hT] at q; exact q
  have ev4 : fa.tmps[4]?.getD undef = .bool true := (hF.ev 16 4 (by kernel_rfl)).trans q16
  go_wp2
  exact hF.ret rfl rfl ev4 ⟨rfl, below_tr hW fB⟩
end Go.Proofs.Ytdhckbpfkdekmaa
