/- The law's put, walked. -/
import Derived.Test.YtdhckbpfkdekmaaLawPut
namespace Go.Proofs.Ytdhckbpfkdekmaa
open Go.RowKit
set_option linter.unusedVariables false
set_option maxRecDepth 100000 in
set_option maxHeartbeats 4000000 in
theorem lawPut0 (A : Option Addr) (n c : Nat) (bs : List Int) (k : Int) (x : Nat) (i : Int) (s : ByteArray) (B : Option Addr) (m d : Nat) (l : List Int) (hk : k = 0) (w : World) (hr : Rds w 1 A n c (nums .u8 bs)) (hn : n ≤ 1000000) (hx : x < 18446744073709551616) (hi : I64 i) (hs : s.size ≤ 1000) (hm : m ≤ 1000) (hl : ∀ y ∈ l, I64 y) (hr2 : Rds w 1 B m d (nums .i64 l)) :
    Calls Try.prog 33 #[.slice A n c, .agg #[.int .i64 k, .int .u64 x, .int .i64 i, .string s, .slice B m d]] w (Puts w (bs ++ encV ⟨k, x, i, s, B, m, d, l⟩)) := by
  subst hk
  have hal : Below w.heap.size w (w.alloc (.cells #[.int .i64 0, .int .u64 x, .int .i64 i, .string s, .slice B m d] 26)) := below_al (Below.refl _ _) _
  have HE : Hid (encV ⟨0, x, i, s, B, m, d, l⟩ = enc x) := by show _ = _; simp [encV]
  have HC := Lib.hid (cnum A n c bs x hx _ (hr.below hal) (by omega))
  have HAL := Lib.hid hal
  clear hal hx hi hl hs hr2
  go_enter Try.func33, Try.ntmps33
  go_wp2_with (go_at_call 10; (with_reducible refine HC.out.mono ?_); rintro e w1 ⟨v, rfl, hown, hb1⟩)
  go_ret
  rw [HE.out]
  exact ⟨v, rfl, own_mono (by simpa only [List.append_assoc] using hown) HAL.out.size, below_tr HAL.out hb1⟩
set_option maxRecDepth 100000 in
set_option maxHeartbeats 4000000 in
theorem lawPut1 (A : Option Addr) (n c : Nat) (bs : List Int) (k : Int) (x : Nat) (i : Int) (s : ByteArray) (B : Option Addr) (m d : Nat) (l : List Int) (hk : k = 1) (w : World) (hr : Rds w 1 A n c (nums .u8 bs)) (hn : n ≤ 1000000) (hx : x < 18446744073709551616) (hi : I64 i) (hs : s.size ≤ 1000) (hm : m ≤ 1000) (hl : ∀ y ∈ l, I64 y) (hr2 : Rds w 1 B m d (nums .i64 l)) :
    Calls Try.prog 33 #[.slice A n c, .agg #[.int .i64 k, .int .u64 x, .int .i64 i, .string s, .slice B m d]] w (Puts w (bs ++ encV ⟨k, x, i, s, B, m, d, l⟩)) := by
  subst hk
  have hal : Below w.heap.size w (w.alloc (.cells #[.int .i64 1, .int .u64 x, .int .i64 i, .string s, .slice B m d] 26)) := below_al (Below.refl _ _) _
  have HE : Hid (encV ⟨1, x, i, s, B, m, d, l⟩ = enc (zigN i)) := by show _ = _; simp [encV]
  have HC := Lib.hid (cint A n c bs i hi _ (hr.below hal) (by omega))
  have HAL := Lib.hid hal
  clear hal hx hi hl hs hr2
  go_enter Try.func33, Try.ntmps33
  go_wp2_with (go_at_call 12; (with_reducible refine HC.out.mono ?_); rintro e w1 ⟨v, rfl, hown, hb1⟩)
  go_ret
  rw [HE.out]
  exact ⟨v, rfl, own_mono (by simpa only [List.append_assoc] using hown) HAL.out.size, below_tr HAL.out hb1⟩
set_option maxRecDepth 100000 in
set_option maxHeartbeats 4000000 in
theorem lawPut2 (A : Option Addr) (n c : Nat) (bs : List Int) (k : Int) (x : Nat) (i : Int) (s : ByteArray) (B : Option Addr) (m d : Nat) (l : List Int) (hk : k = 2) (w : World) (hr : Rds w 1 A n c (nums .u8 bs)) (hn : n ≤ 1000000) (hx : x < 18446744073709551616) (hi : I64 i) (hs : s.size ≤ 1000) (hm : m ≤ 1000) (hl : ∀ y ∈ l, I64 y) (hr2 : Rds w 1 B m d (nums .i64 l)) :
    Calls Try.prog 33 #[.slice A n c, .agg #[.int .i64 k, .int .u64 x, .int .i64 i, .string s, .slice B m d]] w (Puts w (bs ++ encV ⟨k, x, i, s, B, m, d, l⟩)) := by
  subst hk
  have hal : Below w.heap.size w (w.alloc (.cells #[.int .i64 2, .int .u64 x, .int .i64 i, .string s, .slice B m d] 26)) := below_al (Below.refl _ _) _
  have HE : Hid (encV ⟨2, x, i, s, B, m, d, l⟩ = enc s.size ++ bytesOf s) := by show _ = _; simp [encV]
  have HC := Lib.hid (ctext A n c bs s (by omega) _ (hr.below hal) hn)
  have HAL := Lib.hid hal
  clear hal hx hi hl hs hr2
  go_enter Try.func33, Try.ntmps33
  go_wp2_with (go_at_call 14; (with_reducible refine HC.out.mono ?_); rintro e w1 ⟨v, rfl, hown, hb1⟩)
  go_ret
  rw [HE.out]
  exact ⟨v, rfl, own_mono (by simpa only [List.append_assoc] using hown) HAL.out.size, below_tr HAL.out hb1⟩
set_option maxRecDepth 100000 in
set_option maxHeartbeats 4000000 in
theorem lawPut3 (A : Option Addr) (n c : Nat) (bs : List Int) (k : Int) (x : Nat) (i : Int) (s : ByteArray) (B : Option Addr) (m d : Nat) (l : List Int) (hk : k = 3) (w : World) (hr : Rds w 1 A n c (nums .u8 bs)) (hn : n ≤ 1000000) (hx : x < 18446744073709551616) (hi : I64 i) (hs : s.size ≤ 1000) (hm : m ≤ 1000) (hl : ∀ y ∈ l, I64 y) (hr2 : Rds w 1 B m d (nums .i64 l)) :
    Calls Try.prog 33 #[.slice A n c, .agg #[.int .i64 k, .int .u64 x, .int .i64 i, .string s, .slice B m d]] w (Puts w (bs ++ encV ⟨k, x, i, s, B, m, d, l⟩)) := by
  subst hk
  have hal : Below w.heap.size w (w.alloc (.cells #[.int .i64 3, .int .u64 x, .int .i64 i, .string s, .slice B m d] 26)) := below_al (Below.refl _ _) _
  have HE : Hid (encV ⟨3, x, i, s, B, m, d, l⟩ = [flagN (decide (0 < i))]) := by show _ = _; simp [encV]
  have HC := Lib.hid (cflag A n c bs (decide (0 < i)) _ (hr.below hal) hn)
  have HAL := Lib.hid hal
  clear hal hx hi hl hs hr2
  go_enter Try.func33, Try.ntmps33
  go_wp2_with (go_at_call 16; (with_reducible refine HC.out.mono ?_); rintro e w1 ⟨v, rfl, hown, hb1⟩)
  go_ret
  rw [HE.out]
  exact ⟨v, rfl, own_mono (by simpa only [List.append_assoc] using hown) HAL.out.size, below_tr HAL.out hb1⟩
set_option maxRecDepth 100000 in
set_option maxHeartbeats 4000000 in
theorem lawPut4 (A : Option Addr) (n c : Nat) (bs : List Int) (k : Int) (x : Nat) (i : Int) (s : ByteArray) (B : Option Addr) (m d : Nat) (l : List Int) (hk : k = 4) (w : World) (hr : Rds w 1 A n c (nums .u8 bs)) (hn : n ≤ 1000000) (hx : x < 18446744073709551616) (hi : I64 i) (hs : s.size ≤ 1000) (hm : m ≤ 1000) (hl : ∀ y ∈ l, I64 y) (hr2 : Rds w 1 B m d (nums .i64 l)) :
    Calls Try.prog 33 #[.slice A n c, .agg #[.int .i64 k, .int .u64 x, .int .i64 i, .string s, .slice B m d]] w (Puts w (bs ++ encV ⟨k, x, i, s, B, m, d, l⟩)) := by
  subst hk
  have hal : Below w.heap.size w (w.alloc (.cells #[.int .i64 4, .int .u64 x, .int .i64 i, .string s, .slice B m d] 26)) := below_al (Below.refl _ _) _
  have HE : Hid (encV ⟨4, x, i, s, B, m, d, l⟩ = enc m ++ encs l) := by show _ = _; simp [encV]
  have HC := Lib.hid (cints A n c bs B m d l hl _ (hr.below hal) (hr2.below hal) hn (by omega))
  have HAL := Lib.hid hal
  clear hal hx hi hl hs hr2
  go_enter Try.func33, Try.ntmps33
  go_wp2_with (go_at_call 18; (with_reducible refine HC.out.mono ?_); rintro e w1 ⟨v, rfl, hown, hb1⟩)
  go_ret
  rw [HE.out]
  exact ⟨v, rfl, own_mono (by simpa only [List.append_assoc] using hown) HAL.out.size, below_tr HAL.out hb1⟩
set_option maxRecDepth 100000 in
set_option maxHeartbeats 4000000 in
theorem lawPut5 (A : Option Addr) (n c : Nat) (bs : List Int) (k : Int) (x : Nat) (i : Int) (s : ByteArray) (B : Option Addr) (m d : Nat) (l : List Int) (hk : k ≠ 0 ∧ k ≠ 1 ∧ k ≠ 2 ∧ k ≠ 3 ∧ k ≠ 4) (w : World) (hr : Rds w 1 A n c (nums .u8 bs)) (hn : n ≤ 1000000) (hx : x < 18446744073709551616) (hi : I64 i) (hs : s.size ≤ 1000) (hm : m ≤ 1000) (hl : ∀ y ∈ l, I64 y) (hr2 : Rds w 1 B m d (nums .i64 l)) :
    Calls Try.prog 33 #[.slice A n c, .agg #[.int .i64 k, .int .u64 x, .int .i64 i, .string s, .slice B m d]] w (Puts w (bs ++ encV ⟨k, x, i, s, B, m, d, l⟩)) := by
  obtain ⟨k0, k1, k2, k3, k4⟩ := hk
  have q0 : (k == 0) = false := by simp; omega
  have q1 : (k == 1) = false := by simp; omega
  have q2 : (k == 2) = false := by simp; omega
  have q3 : (k == 3) = false := by simp; omega
  have q4 : (k == 4) = false := by simp; omega
  have HE : Hid (encV ⟨k, x, i, s, B, m, d, l⟩ = [((x % 256 : Nat) : Int)]) := by show _ = _; simp [encV, k0, k1, k2, k3, k4]
  have hrl := rds_len hr
  obtain ⟨W0, hW0⟩ : ∃ W0, W0 = w.alloc (.cells #[.int .i64 k, .int .u64 x, .int .i64 i, .string s, .slice B m d] 26) := ⟨_, rfl⟩
  have hal : Below w.heap.size w W0 := by rw [hW0]; exact below_al (Below.refl _ _) _
  have hz0 : w.heap.size < W0.heap.size := by rw [hW0]; simp
  have x1 : W0.cell? ⟨w.heap.size, 1, none⟩ = some (.int .u64 x) := by rw [hW0]; go_simp
  have hr0 := hr.below hal
  clear k0 k1 k2 k3 k4 hx hi hl hs hr2
  go_enter Try.func33, Try.ntmps33
  go_wp2
  rw [← hW0]
  obtain ⟨y, hy⟩ : ∃ y : Int, y = ((x % 256 : Nat) : Int) := ⟨_, rfl⟩
  have HY := Lib.hid hy
  obtain ⟨G, hG⟩ : ∃ G : Option Value → Option Value → Option Value → Option Value → Option Value → World → Prop, ∀ a b c' e f W, G a b c' e f W = PutA W0 n bs y a b c' e f W := ⟨_, fun _ _ _ _ _ _ => rfl⟩
  obtain ⟨S_, hS_⟩ : ∃ S_ : World → World → Prop, S_ = (fun _ _ => True) := ⟨_, rfl⟩
  have hR_ : ∀ W, S_ W W := by intro W; rw [hS_]; exact trivial
  obtain ⟨T, hT⟩ : ∃ T : Nat → FactS S_, ∀ t_, T t_ = ([FactS.any, FactS.eq (.slice A n c), FactS.any, FactS.eq (.pointer (some ⟨w.heap.size, 1, none⟩)), FactS.eq (.int .u64 x), FactS.eq (.int .u8 y), FactS.any, FactS.any, FactS.any] : List (FactS S_)).getD t_ FactS.any := ⟨_, fun _ => rfl⟩
  have hP_ : ∀ i_ v_ (y_ : Nat → Option Value) W_, ([0, 2, 6, 7, 8].contains i_) = false → G (y_ 0) (y_ 2) (y_ 6) (y_ 7) (y_ 8) W_ → G (updY y_ i_ v_ 0) (updY y_ i_ v_ 2) (updY y_ i_ v_ 6) (updY y_ i_ v_ 7) (updY y_ i_ v_ 8) W_ := by
    intro i_ v_ y_ W_ hi_ h_
    simp only [List.contains_cons, List.contains_nil, Bool.or_false, Bool.or_eq_false_iff, beq_eq_false_iff_ne, ne_eq] at hi_
    obtain ⟨i0_, i2_, i6_, i7_, i8_⟩ := hi_
    rw [updY_ne y_ i_ v_ i0_, updY_ne y_ i_ v_ i2_, updY_ne y_ i_ v_ i6_, updY_ne y_ i_ v_ i7_, updY_ne y_ i_ v_ i8_]
    exact h_
  refine region_tabJ [(0, 38), (1, 39), (2, 40), (3, 41), (4, 42), (5, 43), (6, 44), (7, 45), (8, 4)] S_ T (fun y_ W_ => G (y_ 0) (y_ 2) (y_ 6) (y_ 7) (y_ 8) W_) (by kernel_rfl) (by kernel_rfl) (by kernel_rfl) (by kernel_rfl) (by kernel_rfl) ?_ ?_ ?_
  · skip
    show G none none none none none _
    rw [hG]
    exact ⟨fun h => absurd rfl h, fun h => absurd rfl h, fun _ => ⟨below_dr (Below.refl _ _) _, (fun v e => by cases e), (fun v e => by cases e), (fun v e => by cases e)⟩, (fun v e => by cases e), (fun v e => by cases e)⟩
  · skip
    refine stepsAll_cons (k := 0) ?_ ?_
    · intro fa fx fW fy hF hN hJ hE K fK
      have hJ : G (fy 0) (fy 2) (fy 6) (fy 7) (fy 8) fW := hJ
      rw [hG, hN] at hJ
      have z2 : fy 2 = none := Classical.byContradiction fun h => hJ.o1 h rfl
      have z7 : fy 7 = none := Classical.byContradiction fun h => (hJ.o2 h).1 z2
      refine wpOp_to rfl (wanted_none rfl) (v := .slice (some ⟨fW.heap.size, 0, none⟩) 0 0) (W' := fW.alloc (.cells #[] 5)) (by clear fK hE hF hN hJ; go_simp) (fK _ _ (by rw [hS_]; trivial) (by rw [hT]; exact trivial) ?_)
      show G (some _) (fy 2) (fy 6) (fy 7) (fy 8) _
      rw [hG, z2, z7]
      exact ⟨(fun h => absurd rfl h), (fun h => absurd rfl h), fun _ => by have h := hJ.p z7; rw [z2] at h; exact h.lit0 rfl, (fun v e => by cases e), fun v e => by have := hJ.r v e; rw [z7] at this; cases this⟩
    refine stepsAll_cons (k := 1) ?_ ?_
    · intro fa fx fW fy hF hN hJ hE K fK
      have hJ : G (fy 0) (fy 2) (fy 6) (fy 7) (fy 8) fW := hJ
      have ev0 : fa.tmps[0]?.getD undef = .slice A n c := hF.eo 0 (by kernel_rfl)
      refine wpOp_val rfl (wanted_none rfl) ?_ (fK (.slice A n c) fW (hR_ fW) (by rw [hT]; exact rfl) (hP_ 1 _ fy fW rfl hJ))
      clear fK hE hF hJ hN
      go_simp
    refine stepsAll_cons (k := 2) ?_ ?_
    · intro fa fx fW fy hF hN hJ hE K fK
      have hJ : G (fy 0) (fy 2) (fy 6) (fy 7) (fy 8) fW := hJ
      have q0 : (FactS.any : FactS S_).p (fx 0) fW := by have q := (hE ⟨0, .data⟩ (by simp) rfl).2; rw [hT] at q; exact q
      have y0 : fy 0 = some (fx 0) := (hE ⟨0, .data⟩ (by simp) rfl).1
      have q1 : fx 1 = .slice A n c := by have q := (hE ⟨1, .data⟩ (by simp) rfl).2; rw [hT] at q; exact q
      have ev38 : fa.tmps[38]?.getD undef = fx 0 := hF.ev 0 38 (by kernel_rfl)
      have ev39 : fa.tmps[39]?.getD undef = .slice A n c := (hF.ev 1 39 (by kernel_rfl)).trans q1
      rw [hG, y0, hN] at hJ
      have z7 : fy 7 = none := Classical.byContradiction fun h => (hJ.o2 h).1 rfl
      have hp := hJ.p z7
      obtain ⟨ho, _⟩ := hp.r0 _ rfl rfl
      refine wpOp_list rfl (apn (w0 := W0) W0.heap.size rfl _ _ 22 5 _ 1 1 (by rfl) Try.underlying22 info_u8 rfl (by decide) (by decide) (fx 0) 0 [] A n c (nums .u8 bs) (by clear fK hE hF hN hJ; go_simp) (by clear fK hE hF hN hJ; go_simp) (hr0.below hp.below) (nums_one _ _) ho hp.below hp.below.size (by omega) ?_)
      intro v1 w1 p1 p2 p3 p4
      refine fK _ _ (by rw [hS_]; trivial) (by rw [hT]; exact trivial) ?_
      show G (fy 0) (some _) (fy 6) (fy 7) (fy 8) _
      rw [hG, y0, z7]
      rw [Nat.zero_add, List.nil_append] at p1
      exact ⟨(fun _ => by simp), (fun h => absurd rfl h), fun _ => hp.app p1 p2 p3 p4, (fun v e => by cases e), fun v e => by have := hJ.r v e; rw [z7] at this; cases this⟩
    refine stepsAll_cons (k := 3) ?_ ?_
    · intro fa fx fW fy hF hN hJ hE K fK
      have hJ : G (fy 0) (fy 2) (fy 6) (fy 7) (fy 8) fW := hJ
      have ev3 : fa.tmps[3]?.getD undef = .pointer (some ⟨w.heap.size, 0, none⟩) := hF.eo 3 (by kernel_rfl)
      refine wpOp_val rfl (wanted_none rfl) ?_ (fK (.pointer (some ⟨w.heap.size, 1, none⟩)) fW (hR_ fW) (by rw [hT]; exact rfl) (hP_ 3 _ fy fW rfl hJ))
      clear fK hE hF hJ hN
      go_simp
    refine stepsAll_cons (k := 4) ?_ ?_
    · intro fa fx fW fy hF hN hJ hE K fK
      have hJ : G (fy 0) (fy 2) (fy 6) (fy 7) (fy 8) fW := hJ
      have q3 : fx 3 = .pointer (some ⟨w.heap.size, 1, none⟩) := by have q := (hE ⟨3, .data⟩ (by simp) rfl).2; rw [hT] at q; exact q
      have ev41 : fa.tmps[41]?.getD undef = .pointer (some ⟨w.heap.size, 1, none⟩) := (hF.ev 3 41 (by kernel_rfl)).trans q3
      have hJ2 := hJ
      rw [hG] at hJ2
      have y0 := cell_below hJ2.below x1
      clear hJ2
      refine wpOp_val rfl (wanted_none rfl) ?_ (fK (.int .u64 x) fW (hR_ fW) (by rw [hT]; exact rfl) (hP_ 4 _ fy fW rfl hJ))
      clear fK hE hF hJ hN
      go_simp
    refine stepsAll_cons (k := 5) ?_ ?_
    · intro fa fx fW fy hF hN hJ hE K fK
      have hJ : G (fy 0) (fy 2) (fy 6) (fy 7) (fy 8) fW := hJ
      have q4 : fx 4 = .int .u64 x := by have q := (hE ⟨4, .data⟩ (by simp) rfl).2; rw [hT] at q; exact q
      have ev42 : fa.tmps[42]?.getD undef = .int .u64 x := (hF.ev 4 42 (by kernel_rfl)).trans q4
      refine wpOp_val rfl (wanted_none rfl) ?_ (fK (.int .u8 y) fW (hR_ fW) (by rw [hT]; exact rfl) (hP_ 5 _ fy fW rfl hJ))
      clear fK hE hF hJ hN
      go_simp
      rw [IntKind.wrap_u8]
    refine stepsAll_cons (k := 6) ?_ ?_
    · intro fa fx fW fy hF hN hJ hE K fK
      have hJ : G (fy 0) (fy 2) (fy 6) (fy 7) (fy 8) fW := hJ
      have q5 : fx 5 = .int .u8 y := by have q := (hE ⟨5, .data⟩ (by simp) rfl).2; rw [hT] at q; exact q
      have ev43 : fa.tmps[43]?.getD undef = .int .u8 y := (hF.ev 5 43 (by kernel_rfl)).trans q5
      rw [hG, hN] at hJ
      have z7 : fy 7 = none := Classical.byContradiction fun h => (hJ.o2 h).2 rfl
      refine wpOp_to rfl (wanted_none rfl) (v := .slice (some ⟨fW.heap.size, 0, none⟩) 1 1) (W' := fW.alloc (.cells #[.int .u8 y] 5)) (by clear fK hE hF hN hJ; go_simp) (fK _ _ (by rw [hS_]; trivial) (by rw [hT]; exact trivial) ?_)
      show G (fy 0) (fy 2) (some _) (fy 7) (fy 8) _
      rw [hG, z7]
      exact ⟨hJ.o1, (fun h => absurd rfl h), fun _ => (hJ.p z7).lit6, (fun v e => by cases e), fun v e => by have := hJ.r v e; rw [z7] at this; cases this⟩
    refine stepsAll_cons (k := 7) ?_ ?_
    · intro fa fx fW fy hF hN hJ hE K fK
      have hJ : G (fy 0) (fy 2) (fy 6) (fy 7) (fy 8) fW := hJ
      have q2 : (FactS.any : FactS S_).p (fx 2) fW := by have q := (hE ⟨2, .data⟩ (by simp) rfl).2; rw [hT] at q; exact q
      have y2 : fy 2 = some (fx 2) := (hE ⟨2, .data⟩ (by simp) rfl).1
      have q6 : (FactS.any : FactS S_).p (fx 6) fW := by have q := (hE ⟨6, .data⟩ (by simp) rfl).2; rw [hT] at q; exact q
      have y6 : fy 6 = some (fx 6) := (hE ⟨6, .data⟩ (by simp) rfl).1
      have ev40 : fa.tmps[40]?.getD undef = fx 2 := hF.ev 2 40 (by kernel_rfl)
      have ev44 : fa.tmps[44]?.getD undef = fx 6 := hF.ev 6 44 (by kernel_rfl)
      rw [hG, y2, y6, hN] at hJ
      have hp := hJ.p rfl
      obtain ⟨ho, h6⟩ := hp.r2 _ rfl
      obtain ⟨g, eg, hrg⟩ := hp.r6 _ rfl
      rw [eg] at hJ
      refine wpOp_list rfl (apn (w0 := W0) W0.heap.size rfl _ _ 22 5 _ 1 1 (by rfl) Try.underlying22 info_u8 rfl (by decide) (by decide) (fx 2) n (nums .u8 bs) (some ⟨g, 0, none⟩) 1 1 (nums .u8 [y]) (by clear fK hE hF hN hJ; go_simp) (by clear fK hE hF hN hJ; go_simp) hrg (nums_one _ _) ho hp.below hp.below.size (by omega) ?_)
      intro v1 w1 p1 p2 p3 p4
      refine fK _ _ (by rw [hS_]; trivial) (by rw [hT]; exact trivial) ?_
      show G (fy 0) (fy 2) (fy 6) (some _) (fy 8) _
      rw [hG, y2, y6]
      refine ⟨hJ.o1, (fun _ => ⟨by simp, by simp⟩), (fun h => by cases h), ?_, fun v e => by have := hJ.r v e; cases this⟩
      intro v e
      cases e
      exact ⟨p1, p2⟩
    refine stepsAll_cons (k := 8) ?_ ?_
    · intro fa fx fW fy hF hN hJ hE K fK
      have hJ : G (fy 0) (fy 2) (fy 6) (fy 7) (fy 8) fW := hJ
      have q7 : (FactS.any : FactS S_).p (fx 7) fW := by have q := (hE ⟨7, .data⟩ (by simp) rfl).2; rw [hT] at q; exact q
      have y7 : fy 7 = some (fx 7) := (hE ⟨7, .data⟩ (by simp) rfl).1
      have ev45 : fa.tmps[45]?.getD undef = fx 7 := hF.ev 7 45 (by kernel_rfl)
      have j1 : G (fy 0) (fy 2) (fy 6) (fy 7) (some (fx 7)) fW := by rw [hG] at hJ ⊢; exact ⟨hJ.o1, hJ.o2, hJ.p, hJ.q, fun v e => by cases e; exact y7⟩
      refine wpOp_val rfl (wanted_none rfl) (by clear fK hE hF hJ hN; go_simp) (fK (fx 7) fW (hR_ fW) (by rw [hT]; exact trivial) j1)
    exact stepsAll_nil
  intro fa fx fW fy hF hJ0 hx
  have y0 : fy 0 = some (fx 0) := (hx 0 (by decide)).1
  have y2 : fy 2 = some (fx 2) := (hx 2 (by decide)).1
  have y6 : fy 6 = some (fx 6) := (hx 6 (by decide)).1
  have y7 : fy 7 = some (fx 7) := (hx 7 (by decide)).1
  have y8 : fy 8 = some (fx 8) := (hx 8 (by decide)).1
  have hJ : G (fy 0) (fy 2) (fy 6) (fy 7) (fy 8) fW := hJ0
  clear hJ0
  rw [y0, y2, y6, y7, y8] at hJ
  have q8 : (FactS.any : FactS S_).p (fx 8) fW := by have q := (hx 8 (by decide)).2; rw [hT] at q; exact q
  have ev4 : fa.tmps[4]?.getD undef = fx 8 := hF.ev 8 4 (by kernel_rfl)
  rw [hF.eq]
  clear hF hx hT T hP_ hR_ y0 y2 y6 y7 y8
  simp only [putAll, Act.put, List.setIfInBounds_toArray, List.set_cons_zero, List.set_cons_succ, ]
  rw [hG] at hJ
  have e8 := hJ.r _ rfl
  obtain ⟨ho, hbb⟩ := hJ.q _ e8
  generalize fx 8 = v8 at ho
  go_wp2
  go_ret
  rw [HE.out, ← HY.out]
  refine ⟨v8, rfl, ?_, below_then hal hal.size hbb⟩
  exact own_nums_app (own_mono ho hal.size) rfl hrl.symm rfl
theorem lawPut (v : ValV) (A : Option Addr) (n c : Nat) (bs : List Int) (w : World) (hr : Rds w 1 A n c (nums .u8 bs)) (hn : n ≤ 1000000) (hv : v.ok w) (hs : v.s.size ≤ 1000) (hm : v.m ≤ 1000) :
    Calls Try.prog 33 #[.slice A n c, v.val] w (Puts w (bs ++ encV v)) := by
  obtain ⟨k, x, i, s, B, m, d, l⟩ := v
  obtain ⟨hx, hi, hl, hr2⟩ := hv
  by_cases h0 : k = 0
  · exact lawPut0 A n c bs k x i s B m d l h0 w hr hn hx hi hs hm hl hr2
  by_cases h1 : k = 1
  · exact lawPut1 A n c bs k x i s B m d l h1 w hr hn hx hi hs hm hl hr2
  by_cases h2 : k = 2
  · exact lawPut2 A n c bs k x i s B m d l h2 w hr hn hx hi hs hm hl hr2
  by_cases h3 : k = 3
  · exact lawPut3 A n c bs k x i s B m d l h3 w hr hn hx hi hs hm hl hr2
  by_cases h4 : k = 4
  · exact lawPut4 A n c bs k x i s B m d l h4 w hr hn hx hi hs hm hl hr2
  exact lawPut5 A n c bs k x i s B m d l ⟨h0, h1, h2, h3, h4⟩ w hr hn hx hi hs hm hl hr2
end Go.Proofs.Ytdhckbpfkdekmaa
