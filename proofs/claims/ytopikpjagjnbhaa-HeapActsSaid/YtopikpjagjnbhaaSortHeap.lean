/- The sort: the heap sort. -/
import Derived.Test.YtopikpjagjnbhaaSortRev
namespace Go.Proofs.Ytopikpjagjnbhaa
open Go.RowKit
variable {w0 W : World} {hb gk kb n ck g c m : Nat} {ks : List Int} {d : Array Nat}
set_option maxRecDepth 100000 in
set_option maxHeartbeats 8000000 in
/-- The heap sort. -/
theorem sheap (S : Sa w0 W hb gk kb n ck ks g c m d) (a b : Nat) (hab : a < b) (hbm : b ≤ m) (hm : m ≤ 4096) :
    Calls Try.prog 65 #[.slice (some ⟨g, 0, none⟩) m c, .int .i64 a, .int .i64 b, ordF hb] W fun e W' => e = .returned (.tuple #[]) ∧ Sa w0 W' hb gk kb n ck ks g c m (Sort.heapSort (ltF ks) d a b) := by
  have HS := Lib.hid S
  obtain ⟨n1, hn1⟩ : ∃ q, b - a = q + 1 := ⟨b - a - 1, by omega⟩
  obtain ⟨h1, hh1⟩ : ∃ q, q = n1 / 2 := ⟨_, rfl⟩
  have HR := Lib.hid (show Sort.heapSort (ltF ks) d a b = Sort.heapPop (ltF ks) a (n1 + 1) (Sort.heapBuild (ltF ks) (n1 + 1) a (h1 + 1) d) by unfold Sort.heapSort; rw [hn1, hh1]; rfl)
  obtain ⟨nn, hnn⟩ : ∃ q, q = n1 + 1 := ⟨_, rfl⟩
  rw [← hnn] at HR
  have z1 : (b : Int) - (a : Int) = (nn : Int) := by omega
  have z2 : IntKind.i64.wrap (nn : Int) = (nn : Int) := by rw [IntKind.wrap_i64] <;> omega
  have z3 : (nn : Int) - 1 = (n1 : Int) := by omega
  have z4 : IntKind.i64.wrap (n1 : Int) = (n1 : Int) := by rw [IntKind.wrap_i64] <;> omega
  have z5 : Int.tdiv (n1 : Int) 2 = (h1 : Int) := by rw [hh1]; rfl
  have z6 : IntKind.i64.wrap (h1 : Int) = (h1 : Int) := by rw [IntKind.wrap_i64] <;> omega
  have z7 : h1 < nn ∧ a + nn ≤ m ∧ n1 < nn := by omega
  have HN := Lib.hid hnn
  clear S hn1 hh1 hnn
  go_enter Try.func65, Try.ntmps65
  go_wp2
  go_loopw [11] (fun i wr => ∃ (k : Nat) (d1 : Array Nat), k ≤ h1 + 1 ∧ i = .int .i64 ((k : Int) - 1) ∧ Hid (Sa w0 wr hb gk kb n ck ks g c m d1) ∧ Hid (Sort.heapPop (ltF ks) a nn (Sort.heapBuild (ltF ks) nn a k d1) = Sort.heapSort (ltF ks) d a b)) (fun i _ => (intOf i + 1).toNat)
  case atStart => exact ⟨h1 + 1, d, Nat.le_refl _, by congr 1; omega, (show Hid _ from HS.out), (show Hid _ from HR.out.symm)⟩
  case round =>
    obtain ⟨k, d1, hk, rfl, HS1, HP1⟩ := hrel
    by_cases hk0 : k = 0
    · subst hk0
      rw [show ((0 : Nat) : Int) - 1 = -1 from rfl]
      go_wp2
      go_loopw [12] (fun i wr => ∃ (k : Nat) (d2 : Array Nat), k ≤ nn ∧ i = .int .i64 ((k : Int) - 1) ∧ Hid (Sa w0 wr hb gk kb n ck ks g c m d2) ∧ Hid (Sort.heapPop (ltF ks) a k d2 = Sort.heapSort (ltF ks) d a b)) (fun i _ => (intOf i + 1).toNat)
      case atStart => exact ⟨nn, d1, Nat.le_refl _, by congr 1; omega, (show Hid _ from HS1.out), (show Hid _ from HP1.out)⟩
      case round =>
        obtain ⟨k, d2, hk2, rfl, HS2, HP2⟩ := hrel
        by_cases hk0 : k = 0
        · subst hk0
          go_wp2
          go_end0
          exact ⟨rfl, by rw [← HP2.out]; exact HS2.out⟩
        · obtain ⟨k, rfl⟩ : ∃ q, k = q + 1 := ⟨k - 1, by omega⟩
          have e1 : ((k + 1 : Nat) : Int) - 1 = (k : Int) := by omega
          rw [e1]
          have e2 : (0 : Int) ≤ (k : Int) := by omega
          have e3 : IntKind.i64.wrap ((k : Int) - 1) = (k : Int) - 1 := by rw [IntKind.wrap_i64] <;> omega
          have e4 : a + k < m := by omega
          obtain ⟨iN1, hiN1⟩ : ∃ q, q = a := ⟨_, rfl⟩
          obtain ⟨jN1, hjN1⟩ : ∃ q, q = a + k := ⟨_, rfl⟩
          have ea1 : ((a : Int)).toNat = iN1 := by omega
          have pa1 : (0 : Int) ≤ (a : Int) := by omega
          have sa1 : (a : Int) < (m : Int) := by omega
          have ra1 : IntKind.i64.wrap ((a : Int)) = (a : Int) := by rw [IntKind.wrap_i64] <;> omega
          have eb1 : ((a : Int) + (k : Int)).toNat = jN1 := by omega
          have pb1 : (0 : Int) ≤ (a : Int) + (k : Int) := by omega
          have sb1 : (a : Int) + (k : Int) < (m : Int) := by omega
          have rb1 : IntKind.i64.wrap ((a : Int) + (k : Int)) = (a : Int) + (k : Int) := by rw [IntKind.wrap_i64] <;> omega
          have SW5 := Lib.hid (HS2.out.swap (show a < m by omega) (show a + k < m by omega))
          obtain ⟨x1, hx1⟩ : ∃ x, x = d2[a]! := ⟨_, rfl⟩
          obtain ⟨y1, hy1⟩ : ∃ x, x = d2[a + k]! := ⟨_, rfl⟩
          have c1 : wr.cell? ⟨g, iN1, none⟩ = some (.int .i64 (x1 : Nat)) := by rw [hiN1, hx1]; exact (HS2.out.at' (show a < m by omega)).1
          have f1 : wr.frozen? ⟨g, iN1, none⟩ = false := by rw [hiN1]; exact (HS2.out.at' (show a < m by omega)).2.1
          have c2 : wr.cell? ⟨g, jN1, none⟩ = some (.int .i64 (y1 : Nat)) := by rw [hjN1, hy1]; exact (HS2.out.at' (show a + k < m by omega)).1
          have f2 : wr.frozen? ⟨g, jN1, none⟩ = false := by rw [hjN1]; exact (HS2.out.at' (show a + k < m by omega)).2.1
          obtain ⟨u3, c3⟩ : ∃ u, (wr.setCell ⟨g, iN1, none⟩ (.int .i64 (y1 : Nat))).cell? ⟨g, jN1, none⟩ = some u := by rw [hiN1, hjN1, hy1]; exact HS2.out.two (show a < m by omega) (show a + k < m by omega)
          have E1 : ((wr.setCell ⟨g, a, none⟩ (.int .i64 (d2[a + k]! : Nat))).setCell ⟨g, a + k, none⟩ (.int .i64 (d2[a]! : Nat))).drew = ((wr.setCell ⟨g, iN1, none⟩ (.int .i64 y1)).setCell ⟨g, jN1, none⟩ (.int .i64 x1)).drew := by rw [hx1, hy1, hiN1, hjN1]
          rw [E1] at SW5
          clear E1 hx1 hy1 hiN1 hjN1
          go_wp2_with fail
          go_big_region
          clear c1 c2 c3 f1 f2 pa1 sa1 ra1 pb1 sb1 rb1 ea1 eb1
          generalize ((wr.setCell ⟨g, iN1, none⟩ (.int .i64 y1)).setCell ⟨g, jN1, none⟩ (.int .i64 x1)).drew = W5 at SW5 ⊢
          have HC0 := ssift SW5.out 0 k a (by omega) (by omega) hm
          rw [show ((0 : Nat) : Int) = 0 from rfl] at HC0
          have HC := Lib.hid HC0
          clear HC0
          go_wp2_with (go_at_call 79; (with_reducible refine HC.out.mono ?_); rintro e w1 ⟨rfl, HS3'⟩)
          have HS3 := Lib.hid HS3'
          clear HS3'
          go_roundw
          case rel => exact ⟨k, Sort.siftDown (ltF ks) k a 0 (Sort.swp d2 a (a + k)), by omega, rfl, HS3, (show Hid _ from HP2.out)⟩
          case measure => simp only [intOf]; omega
    · obtain ⟨k, rfl⟩ : ∃ q, k = q + 1 := ⟨k - 1, by omega⟩
      have e1 : ((k + 1 : Nat) : Int) - 1 = (k : Int) := by omega
      rw [e1]
      have e2 : (0 : Int) ≤ (k : Int) := by omega
      have e3 : IntKind.i64.wrap ((k : Int) - 1) = (k : Int) - 1 := by rw [IntKind.wrap_i64] <;> omega
      have HC := Lib.hid (ssift HS1.out k nn a (by omega) (by omega) hm)
      go_wp2_with (go_at_call 79; (with_reducible refine HC.out.mono ?_); rintro e w1 ⟨rfl, HS2⟩)
      have HS3 := Lib.hid HS2
      clear HS2
      go_roundw
      case rel => exact ⟨k, Sort.siftDown (ltF ks) nn a k d1, by omega, rfl, HS3, (show Hid _ from HP1.out)⟩
      case measure => simp only [intOf]; omega
end Go.Proofs.Ytopikpjagjnbhaa
