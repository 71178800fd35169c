/- The sort: a range turned round; the heap sort. -/
import Derived.Test.YtopikpjagjnbhaaSortDown
namespace Go.Proofs.Ytopikpjagjnbhaa
open Go.RowKit
variable {w0 W : World} {hb gk kb n ck g c m : Nat} {ks : List Int} {d : Array Nat}
theorem rev_go (i j : Nat) (d : Array Nat) (h : i < j) : Sort.reverseLoop i j d = Sort.reverseLoop (i + 1) (j - 1) (Sort.swp d i j) := by rw [Sort.reverseLoop, if_pos h]
theorem rev_end (i j : Nat) (d : Array Nat) (h : ¬ i < j) : Sort.reverseLoop i j d = d := by rw [Sort.reverseLoop, if_neg h]
set_option maxRecDepth 100000 in
set_option maxHeartbeats 8000000 in
/-- A range turned round. -/
theorem sreverse (S : Sa w0 W hb gk kb n ck ks g c m d) (a b : Nat) (hab : a < b) (hbm : b ≤ m) (hm : m ≤ 4096) :
    Calls Try.prog 68 #[.slice (some ⟨g, 0, none⟩) m c, .int .i64 a, .int .i64 b, ordF hb] W fun e W' => e = .returned (.tuple #[]) ∧ Sa w0 W' hb gk kb n ck ks g c m (Sort.reverseRange d a b) := by
  have HS := Lib.hid S
  obtain ⟨b1, hb1⟩ : ∃ q, b = q + 1 := ⟨b - 1, by omega⟩
  have HR := Lib.hid (show Sort.reverseRange d a b = Sort.reverseLoop a b1 d by rw [hb1]; rfl)
  have z1 : (b : Int) - 1 = (b1 : Int) := by omega
  have z2 : IntKind.i64.wrap (b1 : Int) = (b1 : Int) := by rw [IntKind.wrap_i64] <;> omega
  have z3 : a ≤ b1 ∧ b1 < m := by omega
  clear S
  clear hb1
  go_enter Try.func68, Try.ntmps68
  go_wp2
  go_loopw [8, 9] (fun i j wr => ∃ (k l : Nat) (d1 : Array Nat), a ≤ k ∧ k ≤ l + 1 ∧ l ≤ b1 ∧ i = .int .i64 k ∧ j = .int .i64 l ∧ Hid (Sa w0 wr hb gk kb n ck ks g c m d1) ∧ Hid (Sort.reverseLoop k l d1 = Sort.reverseRange d a b)) (fun i j _ => (intOf j).toNat + 1 - (intOf i).toNat)
  case atStart => exact ⟨a, b1, d, by omega, by omega, by omega, rfl, by first | rfl | (congr 1), (show Hid _ from HS.out), (show Hid _ from HR.out.symm)⟩
  case round =>
    obtain ⟨k, l, d1, hk1, hk2, hk3, rfl, rfl, HS1, HP1⟩ := hrel
    by_cases hkl : k < l
    · have hkl' : (k : Int) < (l : Int) := by omega
      have HG := Lib.hid ((rev_go k l d1 hkl).symm.trans HP1.out)
      have wl : IntKind.i64.wrap ((l : Int) - 1) = (l : Int) - 1 := by rw [IntKind.wrap_i64] <;> omega
      clear HP1
      obtain ⟨iN1, hiN1⟩ : ∃ q, q = k := ⟨_, rfl⟩
      obtain ⟨jN1, hjN1⟩ : ∃ q, q = l := ⟨_, rfl⟩
      have ea1 : ((k : Int)).toNat = iN1 := by omega
      have pa1 : (0 : Int) ≤ (k : Int) := by omega
      have sa1 : (k : Int) < (m : Int) := by omega
      have ra1 : IntKind.i64.wrap ((k : Int)) = (k : Int) := by rw [IntKind.wrap_i64] <;> omega
      have eb1 : ((l : Int)).toNat = jN1 := by omega
      have pb1 : (0 : Int) ≤ (l : Int) := by omega
      have sb1 : (l : Int) < (m : Int) := by omega
      have rb1 : IntKind.i64.wrap ((l : Int)) = (l : Int) := by rw [IntKind.wrap_i64] <;> omega
      obtain ⟨c1, f1, _⟩ := HS1.out.at' (show k < m by omega)
      obtain ⟨c2, f2, _⟩ := HS1.out.at' (show l < m by omega)
      obtain ⟨u3, c3⟩ := HS1.out.two (show k < m by omega) (show l < m by omega)
      have SW5 := Lib.hid (HS1.out.swap (show k < m by omega) (show l < m by omega))
      obtain ⟨x1, hx1⟩ : ∃ x, x = d1[k]! := ⟨_, rfl⟩
      obtain ⟨y1, hy1⟩ : ∃ x, x = d1[l]! := ⟨_, rfl⟩
      rw [← hx1] at c1
      rw [← hy1] at c2 c3
      rw [← hiN1] at c1 f1 c3
      rw [← hjN1] at c2 f2 c3
      have E1 : ((wr.setCell ⟨g, k, none⟩ (.int .i64 (d1[l]! : Nat))).setCell ⟨g, l, none⟩ (.int .i64 (d1[k]! : Nat))).drew = ((wr.setCell ⟨g, iN1, none⟩ (.int .i64 y1)).setCell ⟨g, jN1, none⟩ (.int .i64 x1)).drew := by rw [hx1, hy1, hiN1, hjN1]
      rw [E1] at SW5
      clear E1 hx1 hy1 hiN1 hjN1
      go_wp2_with fail
      go_big_region
      clear c1 c2 c3 f1 f2 pa1 sa1 ra1 pb1 sb1 rb1 ea1 eb1
      generalize ((wr.setCell ⟨g, iN1, none⟩ (.int .i64 y1)).setCell ⟨g, jN1, none⟩ (.int .i64 x1)).drew = W5 at SW5 ⊢
      go_wp2
      go_roundw
      case rel => exact ⟨k + 1, l - 1, Sort.swp d1 k l, by omega, by omega, by omega, by go_num, by congr 1; omega, SW5, HG⟩
      case measure => simp only [intOf]; omega
    · have hkl' : ¬ (k : Int) < (l : Int) := by omega
      go_wp2
      go_end0
      exact ⟨rfl, by rw [← HP1.out, rev_end _ _ _ hkl]; exact HS1.out⟩
end Go.Proofs.Ytopikpjagjnbhaa
