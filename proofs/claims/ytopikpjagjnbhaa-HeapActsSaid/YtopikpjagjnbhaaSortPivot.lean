/- The sort: the pivot. -/
import Derived.Test.YtopikpjagjnbhaaSortMed
namespace Go.Proofs.Ytopikpjagjnbhaa
open Go.RowKit
variable {w0 W : World} {hb gk kb n ck g c m : Nat} {ks : List Int} {d : Array Nat}
/-- A new box with 0 in it. -/
theorem Cn.new (S : Sa w0 W hb gk kb n ck ks g c m d) : Cn w0 (W.alloc (.cells #[.int .i64 0] 3)) hb gk kb n ck ks g c m d W.heap.size 0 := by
  have hg : g < W.heap.size := (S.ro.lt g rfl).2
  have h1 : hb < W.heap.size := S.kw.kb.lt
  have h2 : gk < W.heap.size := (S.kw.ko.lt gk rfl).2
  refine ⟨S.below (below_al (Below.refl _ _) _), by simp, by simp, ⟨by omega, by omega, by omega⟩, S.bl.size⟩
set_option maxRecDepth 100000 in
set_option maxHeartbeats 8000000 in
/-- The pivot: a place within. -/
theorem spivot (S : Sa w0 W hb gk kb n ck ks g c m d) (a b : Nat) (hab : a + 13 ≤ b) (hbm : b ≤ m) (hm : m ≤ 4096) :
    Calls Try.prog 67 #[.slice (some ⟨g, 0, none⟩) m c, .int .i64 a, .int .i64 b, ordF hb] W fun e W' => ∃ x h : Nat, e = .returned (.tuple #[.int .i64 x, .int .i64 h]) ∧ a ≤ x ∧ x < b ∧ h ≤ 2 ∧ Sa w0 W' hb gk kb n ck ks g c m d := by
  have HN := Lib.hid (Cn.new S)
  clear S
  obtain ⟨ln, hln⟩ : ∃ q, q = b - a := ⟨_, rfl⟩
  obtain ⟨q, hq⟩ : ∃ q, q = ln / 4 := ⟨_, rfl⟩
  obtain ⟨i, hi⟩ : ∃ x, x = a + q := ⟨_, rfl⟩
  obtain ⟨j, hj⟩ : ∃ x, x = a + q * 2 := ⟨_, rfl⟩
  obtain ⟨k, hk⟩ : ∃ x, x = a + q * 3 := ⟨_, rfl⟩
  have z1 : (b : Int) - (a : Int) = (ln : Int) := by omega
  have z2 : IntKind.i64.wrap (ln : Int) = (ln : Int) := by rw [IntKind.wrap_i64] <;> omega
  have z3 : Int.tdiv (ln : Int) 4 = (q : Int) := by rw [hq]; rfl
  have z4 : IntKind.i64.wrap (q : Int) = (q : Int) := by rw [IntKind.wrap_i64] <;> omega
  have z5 : IntKind.i64.wrap ((q : Int) * 2) = (q : Int) * 2 := by rw [IntKind.wrap_i64] <;> omega
  have z6 : IntKind.i64.wrap ((q : Int) * 3) = (q : Int) * 3 := by rw [IntKind.wrap_i64] <;> omega
  have z7 : IntKind.i64.wrap ((a : Int) + (q : Int)) = (i : Int) := by rw [IntKind.wrap_i64] <;> omega
  have z8 : IntKind.i64.wrap ((a : Int) + (q : Int) * 2) = (j : Int) := by rw [IntKind.wrap_i64] <;> omega
  have z9 : IntKind.i64.wrap ((a : Int) + (q : Int) * 3) = (k : Int) := by rw [IntKind.wrap_i64] <;> omega
  have y1 : 0 < i ∧ i + 1 < m ∧ 0 < j ∧ j + 1 < m ∧ 0 < k ∧ k + 1 < m := by omega
  have y2 : a + 1 ≤ i ∧ i + 1 < b ∧ a + 1 ≤ j ∧ j + 1 < b ∧ a + 1 ≤ k ∧ k + 1 < b := by omega
  have y3 : 13 ≤ ln := by omega
  have y4 : (8 : Int) ≤ (ln : Int) := by omega
  clear hln hq hi hj hk
  go_enter Try.func67, Try.ntmps67
  by_cases h50 : 50 ≤ ln
  · have h50' : (50 : Int) ≤ (ln : Int) := by omega
    go_wp2_with (go_at_call 82; fail)
    refine (snear HN.out i (by omega) (by omega) hm (by omega)).mono ?_
    rintro e w1 ⟨i1, s1, rfl, h1, t1, C1⟩
    have H1 := Lib.hid C1
    clear C1
    go_wp2_with (go_at_call 82; fail)
    refine (snear H1.out j (by omega) (by omega) hm (by omega)).mono ?_
    rintro e w2 ⟨j1, s2, rfl, h2, t2, C2⟩
    have H2 := Lib.hid C2
    clear C2
    go_wp2_with (go_at_call 82; fail)
    refine (snear H2.out k (by omega) (by omega) hm (by omega)).mono ?_
    rintro e w3 ⟨k1, s3, rfl, h3, t3, C3⟩
    have H3 := Lib.hid C3
    clear C3
    go_wp2_with (go_at_call 83; fail)
    refine (smedian H3.out i1 j1 k1 (by omega) (by omega) (by omega) hm (by omega)).mono ?_
    rintro e w4 ⟨x, t, rfl, hx, ht, C4⟩
    have HC := Lib.hid C4
    have hx1 : a ≤ x ∧ x < b := by omega
    clear C4 hx
    have k1 := HC.out.cell
    by_cases ht0 : t = 0
    · subst ht0
      rw [show ((0 : Nat) : Int) = 0 from rfl] at k1
      go_wp2
      go_ret2
      exact ⟨x, 1, rfl, by omega, by omega, by omega, HC.out.sa⟩
    · by_cases ht12 : t = 12
      · subst ht12
        rw [show ((12 : Nat) : Int) = 12 from rfl] at k1
        go_wp2
        go_ret2
        exact ⟨x, 2, rfl, by omega, by omega, by omega, HC.out.sa⟩
      · have e1 : ¬ (t : Int) = 0 := by omega
        have e2 : ¬ (t : Int) = 12 := by omega
        go_wp2
        go_ret2
        exact ⟨x, 0, rfl, by omega, by omega, by omega, HC.out.sa⟩
  · have h50' : ¬ (50 : Int) ≤ (ln : Int) := by omega
    go_wp2_with (go_at_call 83; fail)
    refine (smedian HN.out i j k (by omega) (by omega) (by omega) hm (by omega)).mono ?_
    rintro e w4 ⟨x, t, rfl, hx, ht, C4⟩
    have HC := Lib.hid C4
    have hx1 : a ≤ x ∧ x < b := by omega
    clear C4 hx
    have k1 := HC.out.cell
    by_cases ht0 : t = 0
    · subst ht0
      rw [show ((0 : Nat) : Int) = 0 from rfl] at k1
      go_wp2
      go_ret2
      exact ⟨x, 1, rfl, by omega, by omega, by omega, HC.out.sa⟩
    · by_cases ht12 : t = 12
      · subst ht12
        rw [show ((12 : Nat) : Int) = 12 from rfl] at k1
        go_wp2
        go_ret2
        exact ⟨x, 2, rfl, by omega, by omega, by omega, HC.out.sa⟩
      · have e1 : ¬ (t : Int) = 0 := by omega
        have e2 : ¬ (t : Int) = 12 := by omega
        go_wp2
        go_ret2
        exact ⟨x, 0, rfl, by omega, by omega, by omega, HC.out.sa⟩
end Go.Proofs.Ytopikpjagjnbhaa
