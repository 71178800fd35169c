/- Package share: Total, Next, Fair. -/
import Derived.Test.YtmacpgjmhaoneaaShareLives
import Derived.Test.YtmacpgjmhaoneaaShareAll
namespace Go.Proofs.Ytmacpgjmhaoneaa
open Go.RowKit
theorem sum_le64 : ∀ (xs : List Int), (∀ x ∈ xs, 0 ≤ x ∧ x ≤ 64) → 0 ≤ xs.sum ∧ xs.sum ≤ 64 * xs.length
  | [], _ => by simp
  | a :: l, h => by
    have := sum_le64 l (fun x hx => h x (by simp [hx]))
    have := h a (by simp)
    simp only [List.sum_cons, List.length_cons]
    omega
set_option maxRecDepth 100000 in
set_option maxHeartbeats 2000000 in
theorem htotal (A : Option Addr) (n c : Nat) (xs : List Int) (w : World) (hr : Rds w 1 A n c (nums .i64 xs)) (hb : ∀ x ∈ xs, 0 ≤ x ∧ x ≤ 64) (hn : n ≤ 64) :
    Calls Try.prog 16 #[.slice A n c] w fun e w' => e = .returned (.int .i64 xs.sum) ∧ Below w.heap.size w w' := by
  have hlen : xs.length = n := by have := hr.len; rw [nums_length] at this; omega
  have HB := Lib.hid hb
  clear hb
  go_enter Try.func16, Try.ntmps16
  go_wp2
  go_loopw [3, 8] (fun s i wr => ∃ k : Nat, k ≤ n ∧ i = .int .i64 k ∧ ∃ S : Int, s = .int .i64 S ∧ Hid (S = (xs.take k).sum) ∧ 0 ≤ S ∧ S ≤ 64 * k ∧ Below w.heap.size w wr) (fun _ i _ => n - (intOf i).toNat)
  case atStart => exact ⟨0, Nat.zero_le _, rfl, 0, rfl, by show _ = _; simp, by omega, by omega, Below.refl _ _⟩
  case round =>
    obtain ⟨k, hk, rfl, S, rfl, HS, hs0, hs1, hbr⟩ := hrel
    by_cases hlt : k < n
    · obtain ⟨ad, rfl⟩ := hr.some_ (by omega)
      have hq1 := int_read (hr.below hbr) (i := k) (by omega)
      have hx := HB.out (xs.getD k 0) (List.mem_of_getElem? (getD_of (by omega)))
      have HS' := Lib.hid (sum_take_succ (xs := xs) (k := k) (by omega))
      rw [← HS.out] at HS'
      generalize xs.getD k 0 = x at *
      obtain ⟨i1, i2⟩ := hx
      go_wp2
      go_roundw
      case rel => exact ⟨k + 1, by omega, by go_num, _, rfl, HS'.out.symm, by omega, by omega, hbr⟩
      case measure => simp [intOf]; omega
    · obtain rfl : k = n := by omega
      have e1 := HS.out
      rw [List.take_of_length_le (by omega)] at e1
      have E1 := Lib.hid e1
      clear e1 HB
      go_wp2
      go_ret
      exact ⟨ret_int E1.out, hbr⟩
set_option maxHeartbeats 1000000 in
theorem hequal (A : Option Addr) (n c : Nat) (xs : List Int) (B : Option Addr) (m d : Nat) (ys : List Int) (w : World) (hr : Rds w 1 A n c (nums .i64 xs)) (hr2 : Rds w 1 B m d (nums .i64 ys)) :
    Calls Try.prog 27 #[.slice A n c, .slice B m d] w fun e w' => e = .returned (.bool (decide (xs = ys))) ∧ Below w.heap.size w w' := by
  have HN := Lib.hid (nums_inj_len hr)
  have HM := Lib.hid (nums_inj_len hr2)
  have hmax : n ≤ 9223372036854775807 := by have := hr.le; have := hr.max; unfold maxLen at this; omega
  by_cases hnm : n = m
  · subst hnm
    go_enter Try.func27, Try.ntmps27
    go_wp2
    go_loopw [13] (fun i wr => ∃ k : Nat, k ≤ n ∧ i = .int .i64 k ∧ Below w.heap.size w wr ∧ Hid (xs.take k = ys.take k)) (fun i _ => n - (intOf i).toNat)
    case atStart => exact ⟨0, Nat.zero_le _, rfl, Below.refl _ _, by show _ = _; simp⟩
    case round =>
      obtain ⟨k, hk, rfl, hb, HJ⟩ := hrel
      by_cases hlt : k < n
      · have hkx : k < xs.length := by rw [HN.out]; exact hlt
        have hky : k < ys.length := by rw [HM.out]; exact hlt
        obtain ⟨ad, rfl⟩ := hr.some_ (by omega)
        obtain ⟨bd, rfl⟩ := hr2.some_ (by omega)
        have hc1 := (hr.below hb).cell ad rfl k _ (nums_get .i64 xs k hkx)
        have hc2 := (hr2.below hb).cell bd rfl k _ (nums_get .i64 ys k hky)
        have hi0 : (0 : Int) ≤ (k : Int) := by omega
        have hi1 : (k : Int) < (n : Int) := by omega
        obtain ⟨x, hx⟩ : ∃ x, x = xs[k] := ⟨_, rfl⟩
        obtain ⟨y, hy⟩ : ∃ y, y = ys[k] := ⟨_, rfl⟩
        rw [← hx] at hc1
        rw [← hy] at hc2
        have HX := Lib.hid hx
        have HY := Lib.hid hy
        clear hx hy
        by_cases hxy : x = y
        · have hne : (x != y) = false := by simp [hxy]
          have HE := Lib.hid hxy
          clear hxy
          go_wp2
          go_quiet (fail)
          go_wp2
          go_roundw
          case rel =>
            refine ⟨k + 1, by omega, by go_num, below_dr hb _, ?_⟩
            show _ = _
            rw [List.take_succ_eq_append_getElem hkx, List.take_succ_eq_append_getElem hky, HJ.out, ← HX.out, ← HY.out, HE.out]
          case measure => simp [intOf]; omega
        · have hne : (x != y) = true := by simp [hxy]
          have HE := Lib.hid hxy
          clear hxy
          go_wp2
          go_quiet (fail)
          go_wp2
          go_ret
          refine ⟨ret_bool ?_, below_dr hb _⟩
          rw [eq_comm, decide_eq_false_iff_not]
          intro e
          exact HE.out (by rw [HX.out, HY.out]; simp [e])
      · go_wp2
        go_ret
        refine ⟨ret_bool ?_, hb⟩
        have hkn : k = n := by omega
        have h := HJ.out
        rw [List.take_of_length_le (by rw [HN.out]; omega), List.take_of_length_le (by rw [HM.out]; omega)] at h
        simp [h]
  · go_enter Try.func27, Try.ntmps27
    go_wp2
    go_ret
    refine ⟨ret_bool ?_, Below.refl _ _⟩
    rw [eq_comm, decide_eq_false_iff_not]
    intro e
    have h1 := HN.out
    have h2 := HM.out
    rw [e] at h1
    omega
set_option maxRecDepth 100000 in
set_option maxHeartbeats 1000000 in
theorem hfits (A B : Option Addr) (n c d : Nat) (l : List Cl) (w : World) (hr : Rds w 2 A n c (cls l)) (hg : goodC l = true) :
    Calls Try.prog 26 #[.slice A n c, .slice B n d] w fun e w' => e = .returned (.bool true) ∧ Below w.heap.size w w' := by
  have HG := Lib.hid (hgood A n c l w hr)
  rw [hg] at HG
  go_enter Try.func26, Try.ntmps26
  go_wp2_with (go_at_call 12; (with_reducible refine HG.out.mono ?_); rintro e w1 ⟨rfl, hb1⟩)
  go_ret
  exact ⟨rfl, hb1⟩
set_option maxRecDepth 100000 in
set_option maxHeartbeats 2000000 in
theorem hNext (A B : Option Addr) (n c d : Nat) (l : List Cl) (xs : List Int) (start : Int) (w : World) (hr : Rds w 2 A n c (cls l)) (hr2 : Rds w 1 B n d (nums .i64 xs)) (hg : goodC l = true) (hx : ∀ x ∈ xs, 0 ≤ x ∧ x ≤ 64) (hs : I64 start) :
    Calls Try.prog 15 #[.slice A n c, .slice B n d, .int .i64 start] w fun e w' => e = .returned (.int .i64 (bestI (nextC l xs (roundC n (atN start n))))) ∧ Below w.heap.size w w' := by
  obtain ⟨g1, g2⟩ := goodC_iff.1 hg
  have hll := cls_len hr
  have hn : n ≤ 64 := by omega
  have HF := Lib.hid (hfits A B n c d l w hr hg)
  have HR := Lib.hid (fun h0 W => hround n start W h0 hn hs)
  have HO : Hid (∀ i ∈ roundC n (atN start n), i < n) := fun i hi => roundC_lt hi
  have HN := Lib.hid (fun C m f W h1 h2 h3 h4 => hnext B A C n d c m f xs l (roundC n (atN start n)) W h1 h2 h3 HO.out (fun x hx' => by have := hx x hx'; unfold I64; omega) (fun q hq => by have := g2 q hq; unfold I64; omega) h4)
  rcases Nat.eq_zero_or_pos n with h0 | h0
  · have hv : bestI (nextC l xs (roundC n (atN start n))) = -1 := by subst h0; rfl
    subst h0
    rw [hv]
    clear hv HN HR HO hx g1 g2 hg hs hr hr2
    go_enter Try.func15, Try.ntmps15
    go_wp2_with (go_at_call 26; (with_reducible refine HF.out.mono ?_); rintro e w1 ⟨rfl, hb1⟩)
    go_ret
    exact ⟨rfl, hb1⟩
  · have hn0 : ¬ ((n : Nat) : Int) = 0 := by omega
    generalize roundC n (atN start n) = order at *
    clear hx g1 g2 hg hs
    go_enter Try.func15, Try.ntmps15
    go_wp2_with (first | (go_at_call 26; (with_reducible refine HF.out.mono ?_); rintro e w1 ⟨rfl, hb1⟩) | (go_at_call 18; (with_reducible refine (HR.out h0 _).mono ?_); rintro e w2 ⟨⟨v2, rfl, ho2⟩, hb2⟩; obtain ⟨C, m, f, rfl, hm, hr3⟩ := own_open ho2; clear ho2; have B2 := below_tr hb1 hb2) | (go_at_call 19; (with_reducible refine (HN.out _ _ _ _ (hr2.below B2) (hr.below B2) hr3 (by rw [hm.out]; omega)).mono ?_); rintro e w3 ⟨rfl, hb3⟩))
    go_ret
    exact ⟨rfl, below_tr B2 hb3⟩
set_option maxRecDepth 100000 in
set_option maxHeartbeats 2000000 in
theorem hfair (cores : Int) (A B : Option Addr) (n c d : Nat) (l : List Cl) (xs : List Int) (start : Int) (w : World) (hr : Rds w 2 A n c (cls l)) (hr2 : Rds w 1 B n d (nums .i64 xs)) (hg : goodC l = true) (h0 : 0 ≤ cores) (hc : cores ≤ 64) (hs : I64 start) :
    Calls Try.prog 17 #[.int .i64 cores, .slice A n c, .int .i64 start, .slice B n d] w fun e w' => e = .returned (.bool (decide (divideC cores.toNat l (atN start n) = xs))) ∧ Below w.heap.size w w' := by
  have HD := Lib.hid (hdivideI A n c l cores start w hr hg h0 hc hs)
  have HE := Lib.hid (fun A' c' W h1 h2 => hequal A' n c' (divideC cores.toNat l (atN start n)) B n d xs W h1 h2)
  generalize decide (divideC cores.toNat l (atN start n) = xs) = v at *
  generalize divideC cores.toNat l (atN start n) = dv at *
  clear hr hg hs
  go_enter Try.func17, Try.ntmps17
  go_wp2_with (first | (go_at_call 10; (with_reducible refine HD.out.mono ?_); rintro e w1 ⟨⟨g, rfl, ho1⟩, hb1⟩; have hx1 := (own_rds' ho1).2; clear ho1) | (go_at_call 27; (with_reducible refine (HE.out _ _ _ hx1 (hr2.below hb1)).mono ?_); rintro e w2 ⟨rfl, hb2⟩))
  go_ret
  exact ⟨rfl, below_tr hb1 hb2⟩
end Go.Proofs.Ytmacpgjmhaoneaa
