/- The sort: a range turned round; the heap sort. -/
import Derived.Test.YtabdipfpfbdghaaGreatZSortDown
namespace Go.Proofs.YtabdipfpfbdghaaGreat
open Go.RowKit
variable {w0 W : World} {hb gk kb n ck g c m : Nat} {ks : List Int} {d : Array Nat}
theorem rev_go (i j : Nat) (d : Array Nat) (h : i < j) : Sort.reverseLoop i j d = Sort.reverseLoop (i + 1) (j - 1) (Sort.swp d i j) := by rw [Sort.reverseLoop, if_pos h]
theorem rev_end (i j : Nat) (d : Array Nat) (h : ¬ i < j) : Sort.reverseLoop i j d = d := by rw [Sort.reverseLoop, if_neg h]
set_option maxRecDepth 100000 in
set_option maxHeartbeats 8000000 in
/-- A range turned round. -/
theorem sreverse (S : Sa w0 W hb gk kb n ck ks g c m d) (a b : Nat) (hab : a < b) (hbm : b ≤ m) (hm : m ≤ 4096) :
    Calls Tryz.prog 117 #[.slice (some ⟨g, 0, none⟩) m c, .int .i64 a, .int .i64 b, ordF hb] W fun e W' => e = .returned (.tuple #[]) ∧ Sa w0 W' hb gk kb n ck ks g c m (Sort.reverseRange d a b) := by
  have HS := Lib.hid S
  obtain ⟨b1, hb1⟩ : ∃ q, b = q + 1 := ⟨b - 1, by omega⟩
  have HR := Lib.hid (show Sort.reverseRange d a b = Sort.reverseLoop a b1 d by rw [hb1]; rfl)
  have z1 : (b : Int) - 1 = (b1 : Int) := by omega
  have z2 : IntKind.i64.wrap (b1 : Int) = (b1 : Int) := by rw [IntKind.wrap_i64] <;> omega
  have z3 : a ≤ b1 ∧ b1 < m := by omega
  clear S
  clear hb1
  go_enter Tryz.func117, Tryz.ntmps117
  go_wp2
  go_loopw [8, 9] (fun i j wr => ∃ (k l : Nat) (d1 : Array Nat), a ≤ k ∧ k ≤ l + 1 ∧ l ≤ b1 ∧ i = .int .i64 k ∧ j = .int .i64 l ∧ Hid (Sa w0 wr hb gk kb n ck ks g c m d1) ∧ Hid (Sort.reverseLoop k l d1 = Sort.reverseRange d a b)) (fun i j _ => (intOf j).toNat + 1 - (intOf i).toNat)
  case atStart => exact ⟨a, b1, d, by omega, by omega, by omega, rfl, by first | rfl | (congr 1), (show Hid _ from HS.out), (show Hid _ from HR.out.symm)⟩
  case round =>
    obtain ⟨k, l, d1, hk1, hk2, hk3, rfl, rfl, HS1, HP1⟩ := hrel
    by_cases hkl : k < l
    · have hkl' : (k : Int) < (l : Int) := by omega
      have HG := Lib.hid ((rev_go k l d1 hkl).symm.trans HP1.out)
      have wl : IntKind.i64.wrap ((l : Int) - 1) = (l : Int) - 1 := by rw [IntKind.wrap_i64] <;> omega
      clear HP1
      obtain ⟨iN1, hiN1⟩ : ∃ q, q = k := ⟨_, rfl⟩
      obtain ⟨jN1, hjN1⟩ : ∃ q, q = l := ⟨_, rfl⟩
      have ea1 : ((k : Int)).toNat = iN1 := by omega
      have pa1 : (0 : Int) ≤ (k : Int) := by omega
      have sa1 : (k : Int) < (m : Int) := by omega
      have ra1 : IntKind.i64.wrap ((k : Int)) = (k : Int) := by rw [IntKind.wrap_i64] <;> omega
      have eb1 : ((l : Int)).toNat = jN1 := by omega
      have pb1 : (0 : Int) ≤ (l : Int) := by omega
      have sb1 : (l : Int) < (m : Int) := by omega
      have rb1 : IntKind.i64.wrap ((l : Int)) = (l : Int) := by rw [IntKind.wrap_i64] <;> omega
      obtain ⟨c1, f1, _⟩ := HS1.out.at' (show k < m by omega)
      obtain ⟨c2, f2, _⟩ := HS1.out.at' (show l < m by omega)
      obtain ⟨u3, c3⟩ := HS1.out.two (show k < m by omega) (show l < m by omega)
      have SW5 := Lib.hid (HS1.out.swap (show k < m by omega) (show l < m by omega))
      obtain ⟨x1, hx1⟩ : ∃ x, x = d1[k]! := ⟨_, rfl⟩
      obtain ⟨y1, hy1⟩ : ∃ x, x = d1[l]! := ⟨_, rfl⟩
      rw [← hx1] at c1
      rw [← hy1] at c2 c3
      rw [← hiN1] at c1 f1 c3
      rw [← hjN1] at c2 f2 c3
      have E1 : ((wr.setCell ⟨g, k, none⟩ (.int .i64 (d1[l]! : Nat))).setCell ⟨g, l, none⟩ (.int .i64 (d1[k]! : Nat))).drew = ((wr.setCell ⟨g, iN1, none⟩ (.int .i64 y1)).setCell ⟨g, jN1, none⟩ (.int .i64 x1)).drew := by rw [hx1, hy1, hiN1, hjN1]
      rw [E1] at SW5
      clear E1 hx1 hy1 hiN1 hjN1
      go_wp2_with fail
      go_big_region
      clear c1 c2 c3 f1 f2 pa1 sa1 ra1 pb1 sb1 rb1 ea1 eb1
      generalize ((wr.setCell ⟨g, iN1, none⟩ (.int .i64 y1)).setCell ⟨g, jN1, none⟩ (.int .i64 x1)).drew = W5 at SW5 ⊢
      go_wp2
      go_roundw
      case rel => exact ⟨k + 1, l - 1, Sort.swp d1 k l, by omega, by omega, by omega, by go_num, by congr 1; omega, SW5, HG⟩
      case measure => simp only [intOf]; omega
    · have hkl' : ¬ (k : Int) < (l : Int) := by omega
      go_wp2
      go_end0
      exact ⟨rfl, by rw [← HP1.out, rev_end _ _ _ hkl]; exact HS1.out⟩
end Go.Proofs.YtabdipfpfbdghaaGreat

/- The sort: the heap sort. -/
namespace Go.Proofs.YtabdipfpfbdghaaGreat
open Go.RowKit
variable {w0 W : World} {hb gk kb n ck g c m : Nat} {ks : List Int} {d : Array Nat}
set_option maxRecDepth 100000 in
set_option maxHeartbeats 8000000 in
/-- The heap sort. -/
theorem sheap (S : Sa w0 W hb gk kb n ck ks g c m d) (a b : Nat) (hab : a < b) (hbm : b ≤ m) (hm : m ≤ 4096) :
    Calls Tryz.prog 114 #[.slice (some ⟨g, 0, none⟩) m c, .int .i64 a, .int .i64 b, ordF hb] W fun e W' => e = .returned (.tuple #[]) ∧ Sa w0 W' hb gk kb n ck ks g c m (Sort.heapSort (ltF ks) d a b) := by
  have HS := Lib.hid S
  obtain ⟨n1, hn1⟩ : ∃ q, b - a = q + 1 := ⟨b - a - 1, by omega⟩
  obtain ⟨h1, hh1⟩ : ∃ q, q = n1 / 2 := ⟨_, rfl⟩
  have HR := Lib.hid (show Sort.heapSort (ltF ks) d a b = Sort.heapPop (ltF ks) a (n1 + 1) (Sort.heapBuild (ltF ks) (n1 + 1) a (h1 + 1) d) by unfold Sort.heapSort; rw [hn1, hh1]; rfl)
  obtain ⟨nn, hnn⟩ : ∃ q, q = n1 + 1 := ⟨_, rfl⟩
  rw [← hnn] at HR
  have z1 : (b : Int) - (a : Int) = (nn : Int) := by omega
  have z2 : IntKind.i64.wrap (nn : Int) = (nn : Int) := by rw [IntKind.wrap_i64] <;> omega
  have z3 : (nn : Int) - 1 = (n1 : Int) := by omega
  have z4 : IntKind.i64.wrap (n1 : Int) = (n1 : Int) := by rw [IntKind.wrap_i64] <;> omega
  have z5 : Int.tdiv (n1 : Int) 2 = (h1 : Int) := by rw [hh1]; rfl
  have z6 : IntKind.i64.wrap (h1 : Int) = (h1 : Int) := by rw [IntKind.wrap_i64] <;> omega
  have z7 : h1 < nn ∧ a + nn ≤ m ∧ n1 < nn := by omega
  have HN := Lib.hid hnn
  clear S hn1 hh1 hnn
  go_enter Tryz.func114, Tryz.ntmps114
  go_wp2
  go_loopw [11] (fun i wr => ∃ (k : Nat) (d1 : Array Nat), k ≤ h1 + 1 ∧ i = .int .i64 ((k : Int) - 1) ∧ Hid (Sa w0 wr hb gk kb n ck ks g c m d1) ∧ Hid (Sort.heapPop (ltF ks) a nn (Sort.heapBuild (ltF ks) nn a k d1) = Sort.heapSort (ltF ks) d a b)) (fun i _ => (intOf i + 1).toNat)
  case atStart => exact ⟨h1 + 1, d, Nat.le_refl _, by congr 1; omega, (show Hid _ from HS.out), (show Hid _ from HR.out.symm)⟩
  case round =>
    obtain ⟨k, d1, hk, rfl, HS1, HP1⟩ := hrel
    by_cases hk0 : k = 0
    · subst hk0
      rw [show ((0 : Nat) : Int) - 1 = -1 from rfl]
      go_wp2
      go_loopw [12] (fun i wr => ∃ (k : Nat) (d2 : Array Nat), k ≤ nn ∧ i = .int .i64 ((k : Int) - 1) ∧ Hid (Sa w0 wr hb gk kb n ck ks g c m d2) ∧ Hid (Sort.heapPop (ltF ks) a k d2 = Sort.heapSort (ltF ks) d a b)) (fun i _ => (intOf i + 1).toNat)
      case atStart => exact ⟨nn, d1, Nat.le_refl _, by congr 1; omega, (show Hid _ from HS1.out), (show Hid _ from HP1.out)⟩
      case round =>
        obtain ⟨k, d2, hk2, rfl, HS2, HP2⟩ := hrel
        by_cases hk0 : k = 0
        · subst hk0
          go_wp2
          go_end0
          exact ⟨rfl, by rw [← HP2.out]; exact HS2.out⟩
        · obtain ⟨k, rfl⟩ : ∃ q, k = q + 1 := ⟨k - 1, by omega⟩
          have e1 : ((k + 1 : Nat) : Int) - 1 = (k : Int) := by omega
          rw [e1]
          have e2 : (0 : Int) ≤ (k : Int) := by omega
          have e3 : IntKind.i64.wrap ((k : Int) - 1) = (k : Int) - 1 := by rw [IntKind.wrap_i64] <;> omega
          have e4 : a + k < m := by omega
          obtain ⟨iN1, hiN1⟩ : ∃ q, q = a := ⟨_, rfl⟩
          obtain ⟨jN1, hjN1⟩ : ∃ q, q = a + k := ⟨_, rfl⟩
          have ea1 : ((a : Int)).toNat = iN1 := by omega
          have pa1 : (0 : Int) ≤ (a : Int) := by omega
          have sa1 : (a : Int) < (m : Int) := by omega
          have ra1 : IntKind.i64.wrap ((a : Int)) = (a : Int) := by rw [IntKind.wrap_i64] <;> omega
          have eb1 : ((a : Int) + (k : Int)).toNat = jN1 := by omega
          have pb1 : (0 : Int) ≤ (a : Int) + (k : Int) := by omega
          have sb1 : (a : Int) + (k : Int) < (m : Int) := by omega
          have rb1 : IntKind.i64.wrap ((a : Int) + (k : Int)) = (a : Int) + (k : Int) := by rw [IntKind.wrap_i64] <;> omega
          have SW5 := Lib.hid (HS2.out.swap (show a < m by omega) (show a + k < m by omega))
          obtain ⟨x1, hx1⟩ : ∃ x, x = d2[a]! := ⟨_, rfl⟩
          obtain ⟨y1, hy1⟩ : ∃ x, x = d2[a + k]! := ⟨_, rfl⟩
          have c1 : wr.cell? ⟨g, iN1, none⟩ = some (.int .i64 (x1 : Nat)) := by rw [hiN1, hx1]; exact (HS2.out.at' (show a < m by omega)).1
          have f1 : wr.frozen? ⟨g, iN1, none⟩ = false := by rw [hiN1]; exact (HS2.out.at' (show a < m by omega)).2.1
          have c2 : wr.cell? ⟨g, jN1, none⟩ = some (.int .i64 (y1 : Nat)) := by rw [hjN1, hy1]; exact (HS2.out.at' (show a + k < m by omega)).1
          have f2 : wr.frozen? ⟨g, jN1, none⟩ = false := by rw [hjN1]; exact (HS2.out.at' (show a + k < m by omega)).2.1
          obtain ⟨u3, c3⟩ : ∃ u, (wr.setCell ⟨g, iN1, none⟩ (.int .i64 (y1 : Nat))).cell? ⟨g, jN1, none⟩ = some u := by rw [hiN1, hjN1, hy1]; exact HS2.out.two (show a < m by omega) (show a + k < m by omega)
          have E1 : ((wr.setCell ⟨g, a, none⟩ (.int .i64 (d2[a + k]! : Nat))).setCell ⟨g, a + k, none⟩ (.int .i64 (d2[a]! : Nat))).drew = ((wr.setCell ⟨g, iN1, none⟩ (.int .i64 y1)).setCell ⟨g, jN1, none⟩ (.int .i64 x1)).drew := by rw [hx1, hy1, hiN1, hjN1]
          rw [E1] at SW5
          clear E1 hx1 hy1 hiN1 hjN1
          go_wp2_with fail
          go_big_region
          clear c1 c2 c3 f1 f2 pa1 sa1 ra1 pb1 sb1 rb1 ea1 eb1
          generalize ((wr.setCell ⟨g, iN1, none⟩ (.int .i64 y1)).setCell ⟨g, jN1, none⟩ (.int .i64 x1)).drew = W5 at SW5 ⊢
          have HC0 := ssift SW5.out 0 k a (by omega) (by omega) hm
          rw [show ((0 : Nat) : Int) = 0 from rfl] at HC0
          have HC := Lib.hid HC0
          clear HC0
          go_wp2_with (go_at_call 123; (with_reducible refine HC.out.mono ?_); rintro e w1 ⟨rfl, HS3'⟩)
          have HS3 := Lib.hid HS3'
          clear HS3'
          go_roundw
          case rel => exact ⟨k, Sort.siftDown (ltF ks) k a 0 (Sort.swp d2 a (a + k)), by omega, rfl, HS3, (show Hid _ from HP2.out)⟩
          case measure => simp only [intOf]; omega
    · obtain ⟨k, rfl⟩ : ∃ q, k = q + 1 := ⟨k - 1, by omega⟩
      have e1 : ((k + 1 : Nat) : Int) - 1 = (k : Int) := by omega
      rw [e1]
      have e2 : (0 : Int) ≤ (k : Int) := by omega
      have e3 : IntKind.i64.wrap ((k : Int) - 1) = (k : Int) - 1 := by rw [IntKind.wrap_i64] <;> omega
      have HC := Lib.hid (ssift HS1.out k nn a (by omega) (by omega) hm)
      go_wp2_with (go_at_call 123; (with_reducible refine HC.out.mono ?_); rintro e w1 ⟨rfl, HS2⟩)
      have HS3 := Lib.hid HS2
      clear HS2
      go_roundw
      case rel => exact ⟨k, Sort.siftDown (ltF ks) nn a k d1, by omega, rfl, HS3, (show Hid _ from HP1.out)⟩
      case measure => simp only [intOf]; omega
end Go.Proofs.YtabdipfpfbdghaaGreat

/- The sort: the pivot's choice. -/
namespace Go.Proofs.YtabdipfpfbdghaaGreat
open Go.RowKit
variable {w0 W : World} {hb gk kb n ck g c m : Nat} {ks : List Int} {d : Array Nat}
/-- A box of the sort's own, with a number in it. -/
structure Cn (w0 W : World) (hb gk kb n ck : Nat) (ks : List Int) (g c m : Nat) (d : Array Nat) (sb s : Nat) : Prop where
  sa : Sa w0 W hb gk kb n ck ks g c m d
  cell : W.cell? ⟨sb, 0, none⟩ = some (.int .i64 s)
  fr : W.frozen? ⟨sb, 0, none⟩ = false
  ne : sb ≠ g ∧ sb ≠ hb ∧ sb ≠ gk
  lo : w0.heap.size ≤ sb
theorem frozen_below {w W : World} (h : Below w.heap.size w W) {b o : Nat} {v : Value} (hc : w.cell? ⟨b, o, none⟩ = some v) (hf : w.frozen? ⟨b, o, none⟩ = false) : W.frozen? ⟨b, o, none⟩ = false := (bfroz h b o (World.block_lt_of_cell? _ _ hc)).trans hf
theorem Cn.below {W' : World} {sb s : Nat} (C : Cn w0 W hb gk kb n ck ks g c m d sb s) (h : Below W.heap.size W W') : Cn w0 W' hb gk kb n ck ks g c m d sb s :=
  ⟨C.sa.below h, cell_below h C.cell, frozen_below h C.cell C.fr, C.ne, C.lo⟩
theorem Cn.put {sb s : Nat} (C : Cn w0 W hb gk kb n ck ks g c m d sb s) (t : Nat) : Cn w0 (W.setCell ⟨sb, 0, none⟩ (.int .i64 t)) hb gk kb n ck ks g c m d sb t := by
  have c1 : Chg (fun k => k = sb) W (W.setCell ⟨sb, 0, none⟩ (.int .i64 t)) := (Chg.refl _ _).setCell _ _ _ rfl
  refine ⟨⟨c1.own C.sa.ro (fun k hk e => ?_), C.sa.kw.keep c1 (fun e => C.ne.2.1 e.symm) (fun e => C.ne.2.2 e.symm), C.sa.ne, C.sa.lt, c1.toBelow C.sa.bl C.sa.bl.size (fun k e => by rw [e]; exact C.lo)⟩, ?_, ?_, C.ne, C.lo⟩
  · cases hk
    exact C.ne.1 e.symm
  · exact World.cell?_setCell_same _ _ _ C.cell
  · rw [World.frozen?_setCell]; exact C.fr
set_option maxRecDepth 100000 in
set_option maxHeartbeats 8000000 in
/-- Two places, the lesser first. -/
theorem sorder2 {sb s : Nat} (C : Cn w0 W hb gk kb n ck ks g c m d sb s) (i j : Nat) (hi : i < m) (hj : j < m) (hm : m ≤ 4096) (hs : s ≤ 4096) :
    Calls Tryz.prog 128 #[.slice (some ⟨g, 0, none⟩) m c, .int .i64 i, .int .i64 j, .pointer (some ⟨sb, 0, none⟩), ordF hb] W fun e W' => ∃ x y t : Nat, e = .returned (.tuple #[.int .i64 x, .int .i64 y]) ∧ (x = i ∧ y = j ∨ x = j ∧ y = i) ∧ t ≤ s + 1 ∧ Cn w0 W' hb gk kb n ck ks g c m d sb t := by
  have HC := Lib.hid C
  have HS := Lib.hid C.sa
  clear C
  go_enter Tryz.func128, Tryz.ntmps128
  go_wp2
  cases hv : ltF ks d[j]! d[i]! with
  | true =>
    obtain ⟨iN1, hiN1⟩ : ∃ q, q = j := ⟨_, rfl⟩
    obtain ⟨jN1, hjN1⟩ : ∃ q, q = i := ⟨_, rfl⟩
    have ea1 : ((j : Int)).toNat = iN1 := by omega
    have pa1 : (0 : Int) ≤ (j : Int) := by omega
    have sa1 : (j : Int) < (m : Int) := by omega
    have ra1 : IntKind.i64.wrap ((j : Int)) = (j : Int) := by rw [IntKind.wrap_i64] <;> omega
    have eb1 : ((i : Int)).toNat = jN1 := by omega
    have pb1 : (0 : Int) ≤ (i : Int) := by omega
    have sb1 : (i : Int) < (m : Int) := by omega
    have rb1 : IntKind.i64.wrap ((i : Int)) = (i : Int) := by rw [IntKind.wrap_i64] <;> omega
    obtain ⟨x1, hx1⟩ : ∃ x, x = d[j]! := ⟨_, rfl⟩
    obtain ⟨y1, hy1⟩ : ∃ x, x = d[i]! := ⟨_, rfl⟩
    have q1 := HS.out.cell (show j < m by omega)
    rw [← hx1, ← hiN1] at q1
    have q2 := HS.out.cell (show i < m by omega)
    rw [← hy1, ← hjN1] at q2
    have q3 := fun p => HS.out.cmp (HS.out.at' (show j < m by omega)).2.2 (HS.out.at' (show i < m by omega)).2.2 p
    rw [← hx1, ← hy1] at q3
    have hv1 : ordV ks x1 y1 < 0 := by rw [hx1, hy1]; exact of_decide_eq_true hv
    generalize ordV ks x1 y1 = ov1 at hv1 q3
    have hd1 : decide (ov1 < 0) = true := decide_eq_true hv1
    clear hx1 hy1 hiN1 hjN1
    go_wp2_with fail
    refine wp_behind (by kernel_rfl) (by kernel_rfl) ?_
    repeat (quiet_step (exact q3 _))
    refine wpQuiet_nil ?_
    rintro W2 ⟨⟨_, hbW2⟩, rfl⟩
    clear q1 q2 q3 hv1 hd1 pa1 sa1 ra1 pb1 sb1 rb1 ea1 eb1
    have SW2 := Lib.hid (HS.out.below hbW2)
    have HC2 := Lib.hid (HC.out.below hbW2)
    have k1 := HC2.out.cell
    have k2 := HC2.out.fr
    have HC3 := Lib.hid (HC2.out.put (s + 1))
    have e1 : IntKind.i64.wrap ((s : Int) + 1) = ((s + 1 : Nat) : Int) := by rw [IntKind.wrap_i64] <;> omega
    go_wp2
    go_ret2
    exact ⟨j, i, s + 1, rfl, .inr ⟨rfl, rfl⟩, Nat.le_refl _, HC3.out⟩
  | false =>
    obtain ⟨iN2, hiN2⟩ : ∃ q, q = j := ⟨_, rfl⟩
    obtain ⟨jN2, hjN2⟩ : ∃ q, q = i := ⟨_, rfl⟩
    have ea2 : ((j : Int)).toNat = iN2 := by omega
    have pa2 : (0 : Int) ≤ (j : Int) := by omega
    have sa2 : (j : Int) < (m : Int) := by omega
    have ra2 : IntKind.i64.wrap ((j : Int)) = (j : Int) := by rw [IntKind.wrap_i64] <;> omega
    have eb2 : ((i : Int)).toNat = jN2 := by omega
    have pb2 : (0 : Int) ≤ (i : Int) := by omega
    have sb2 : (i : Int) < (m : Int) := by omega
    have rb2 : IntKind.i64.wrap ((i : Int)) = (i : Int) := by rw [IntKind.wrap_i64] <;> omega
    obtain ⟨x2, hx2⟩ : ∃ x, x = d[j]! := ⟨_, rfl⟩
    obtain ⟨y2, hy2⟩ : ∃ x, x = d[i]! := ⟨_, rfl⟩
    have q1 := HS.out.cell (show j < m by omega)
    rw [← hx2, ← hiN2] at q1
    have q2 := HS.out.cell (show i < m by omega)
    rw [← hy2, ← hjN2] at q2
    have q3 := fun p => HS.out.cmp (HS.out.at' (show j < m by omega)).2.2 (HS.out.at' (show i < m by omega)).2.2 p
    rw [← hx2, ← hy2] at q3
    have hv1 : ¬ ordV ks x2 y2 < 0 := by rw [hx2, hy2]; exact of_decide_eq_false hv
    generalize ordV ks x2 y2 = ov2 at hv1 q3
    have hd1 : decide (ov2 < 0) = false := decide_eq_false hv1
    clear hx2 hy2 hiN2 hjN2
    go_wp2_with fail
    refine wp_behind (by kernel_rfl) (by kernel_rfl) ?_
    repeat (quiet_step (exact q3 _))
    refine wpQuiet_nil ?_
    rintro W2 ⟨⟨_, hbW2⟩, rfl⟩
    clear q1 q2 q3 hv1 hd1 pa2 sa2 ra2 pb2 sb2 rb2 ea2 eb2
    have SW2 := Lib.hid (HS.out.below hbW2)
    have HC2 := Lib.hid (HC.out.below hbW2)
    go_wp2
    go_ret2
    exact ⟨i, j, s, rfl, .inl ⟨rfl, rfl⟩, Nat.le_succ _, HC2.out⟩
set_option maxRecDepth 100000 in
set_option maxHeartbeats 8000000 in
/-- The one in the middle. -/
theorem smedian {sb s : Nat} (C : Cn w0 W hb gk kb n ck ks g c m d sb s) (i j k : Nat) (hi : i < m) (hj : j < m) (hk : k < m) (hm : m ≤ 4096) (hs : s ≤ 4000) :
    Calls Tryz.prog 127 #[.slice (some ⟨g, 0, none⟩) m c, .int .i64 i, .int .i64 j, .int .i64 k, .pointer (some ⟨sb, 0, none⟩), ordF hb] W fun e W' => ∃ x t : Nat, e = .returned (.int .i64 x) ∧ (x = i ∨ x = j ∨ x = k) ∧ t ≤ s + 3 ∧ Cn w0 W' hb gk kb n ck ks g c m d sb t := by
  have H1 := Lib.hid (sorder2 C i j hi hj hm (by omega))
  clear C
  go_enter Tryz.func127, Tryz.ntmps127
  go_wp2_with (go_at_call 128; fail)
  refine H1.out.mono ?_
  rintro e w1 ⟨a1, b1, s1, rfl, h1, t1, C1⟩
  have H2 := Lib.hid (sorder2 C1 b1 k (by omega) hk hm (by omega))
  clear C1
  go_wp2_with (go_at_call 128; fail)
  refine H2.out.mono ?_
  rintro e w2 ⟨a2, b2, s2, rfl, h2, t2, C2⟩
  have H3 := Lib.hid (sorder2 C2 a1 a2 (by omega) (by omega) hm (by omega))
  clear C2
  go_wp2_with (go_at_call 128; fail)
  refine H3.out.mono ?_
  rintro e w3 ⟨a3, b3, s3, rfl, h3, t3, C3⟩
  have HC3 := Lib.hid C3
  clear C3
  go_wp2
  go_ret
  exact ⟨b3, s3, rfl, by omega, by omega, HC3.out⟩
set_option maxRecDepth 100000 in
set_option maxHeartbeats 8000000 in
/-- The one in the middle of three side by side. -/
theorem snear {sb s : Nat} (C : Cn w0 W hb gk kb n ck ks g c m d sb s) (i : Nat) (hi : 0 < i) (hi2 : i + 1 < m) (hm : m ≤ 4096) (hs : s ≤ 4000) :
    Calls Tryz.prog 126 #[.slice (some ⟨g, 0, none⟩) m c, .int .i64 i, .pointer (some ⟨sb, 0, none⟩), ordF hb] W fun e W' => ∃ x t : Nat, e = .returned (.int .i64 x) ∧ (i ≤ x + 1 ∧ x ≤ i + 1) ∧ t ≤ s + 3 ∧ Cn w0 W' hb gk kb n ck ks g c m d sb t := by
  have H1 := smedian C (i - 1) i (i + 1) (by omega) (by omega) hi2 hm hs
  have e1 : ((i - 1 : Nat) : Int) = (i : Int) - 1 := by omega
  have e2 : ((i + 1 : Nat) : Int) = (i : Int) + 1 := by omega
  rw [e1, e2] at H1
  have e3 : IntKind.i64.wrap ((i : Int) - 1) = (i : Int) - 1 := by rw [IntKind.wrap_i64] <;> omega
  have e4 : IntKind.i64.wrap ((i : Int) + 1) = (i : Int) + 1 := by rw [IntKind.wrap_i64] <;> omega
  have HC := Lib.hid H1
  clear C H1 e1 e2
  go_enter Tryz.func126, Tryz.ntmps126
  go_wp2_with (go_at_call 127; fail)
  refine HC.out.mono ?_
  rintro e w3 ⟨b3, s3, rfl, h3, t3, C3⟩
  have HC3 := Lib.hid C3
  clear C3
  go_wp2
  go_ret
  exact ⟨b3, s3, rfl, by omega, t3, HC3.out⟩
end Go.Proofs.YtabdipfpfbdghaaGreat

/- The sort: the pivot. -/
namespace Go.Proofs.YtabdipfpfbdghaaGreat
open Go.RowKit
variable {w0 W : World} {hb gk kb n ck g c m : Nat} {ks : List Int} {d : Array Nat}
/-- A new box with 0 in it. -/
theorem Cn.new (S : Sa w0 W hb gk kb n ck ks g c m d) : Cn w0 (W.alloc (.cells #[.int .i64 0] 3)) hb gk kb n ck ks g c m d W.heap.size 0 := by
  have hg : g < W.heap.size := (S.ro.lt g rfl).2
  have h1 : hb < W.heap.size := S.kw.kb.lt
  have h2 : gk < W.heap.size := (S.kw.ko.lt gk rfl).2
  refine ⟨S.below (below_al (Below.refl _ _) _), by simp, by simp, ⟨by omega, by omega, by omega⟩, S.bl.size⟩
set_option maxRecDepth 100000 in
set_option maxHeartbeats 8000000 in
/-- The pivot: a place within. -/
theorem spivot (S : Sa w0 W hb gk kb n ck ks g c m d) (a b : Nat) (hab : a + 13 ≤ b) (hbm : b ≤ m) (hm : m ≤ 4096) :
    Calls Tryz.prog 116 #[.slice (some ⟨g, 0, none⟩) m c, .int .i64 a, .int .i64 b, ordF hb] W fun e W' => ∃ x h : Nat, e = .returned (.tuple #[.int .i64 x, .int .i64 h]) ∧ a ≤ x ∧ x < b ∧ h ≤ 2 ∧ Sa w0 W' hb gk kb n ck ks g c m d := by
  have HN := Lib.hid (Cn.new S)
  clear S
  obtain ⟨ln, hln⟩ : ∃ q, q = b - a := ⟨_, rfl⟩
  obtain ⟨q, hq⟩ : ∃ q, q = ln / 4 := ⟨_, rfl⟩
  obtain ⟨i, hi⟩ : ∃ x, x = a + q := ⟨_, rfl⟩
  obtain ⟨j, hj⟩ : ∃ x, x = a + q * 2 := ⟨_, rfl⟩
  obtain ⟨k, hk⟩ : ∃ x, x = a + q * 3 := ⟨_, rfl⟩
  have z1 : (b : Int) - (a : Int) = (ln : Int) := by omega
  have z2 : IntKind.i64.wrap (ln : Int) = (ln : Int) := by rw [IntKind.wrap_i64] <;> omega
  have z3 : Int.tdiv (ln : Int) 4 = (q : Int) := by rw [hq]; rfl
  have z4 : IntKind.i64.wrap (q : Int) = (q : Int) := by rw [IntKind.wrap_i64] <;> omega
  have z5 : IntKind.i64.wrap ((q : Int) * 2) = (q : Int) * 2 := by rw [IntKind.wrap_i64] <;> omega
  have z6 : IntKind.i64.wrap ((q : Int) * 3) = (q : Int) * 3 := by rw [IntKind.wrap_i64] <;> omega
  have z7 : IntKind.i64.wrap ((a : Int) + (q : Int)) = (i : Int) := by rw [IntKind.wrap_i64] <;> omega
  have z8 : IntKind.i64.wrap ((a : Int) + (q : Int) * 2) = (j : Int) := by rw [IntKind.wrap_i64] <;> omega
  have z9 : IntKind.i64.wrap ((a : Int) + (q : Int) * 3) = (k : Int) := by rw [IntKind.wrap_i64] <;> omega
  have y1 : 0 < i ∧ i + 1 < m ∧ 0 < j ∧ j + 1 < m ∧ 0 < k ∧ k + 1 < m := by omega
  have y2 : a + 1 ≤ i ∧ i + 1 < b ∧ a + 1 ≤ j ∧ j + 1 < b ∧ a + 1 ≤ k ∧ k + 1 < b := by omega
  have y3 : 13 ≤ ln := by omega
  have y4 : (8 : Int) ≤ (ln : Int) := by omega
  clear hln hq hi hj hk
  go_enter Tryz.func116, Tryz.ntmps116
  by_cases h50 : 50 ≤ ln
  · have h50' : (50 : Int) ≤ (ln : Int) := by omega
    go_wp2_with (go_at_call 126; fail)
    refine (snear HN.out i (by omega) (by omega) hm (by omega)).mono ?_
    rintro e w1 ⟨i1, s1, rfl, h1, t1, C1⟩
    have H1 := Lib.hid C1
    clear C1
    go_wp2_with (go_at_call 126; fail)
    refine (snear H1.out j (by omega) (by omega) hm (by omega)).mono ?_
    rintro e w2 ⟨j1, s2, rfl, h2, t2, C2⟩
    have H2 := Lib.hid C2
    clear C2
    go_wp2_with (go_at_call 126; fail)
    refine (snear H2.out k (by omega) (by omega) hm (by omega)).mono ?_
    rintro e w3 ⟨k1, s3, rfl, h3, t3, C3⟩
    have H3 := Lib.hid C3
    clear C3
    go_wp2_with (go_at_call 127; fail)
    refine (smedian H3.out i1 j1 k1 (by omega) (by omega) (by omega) hm (by omega)).mono ?_
    rintro e w4 ⟨x, t, rfl, hx, ht, C4⟩
    have HC := Lib.hid C4
    have hx1 : a ≤ x ∧ x < b := by omega
    clear C4 hx
    have k1 := HC.out.cell
    by_cases ht0 : t = 0
    · subst ht0
      rw [show ((0 : Nat) : Int) = 0 from rfl] at k1
      go_wp2
      go_ret2
      exact ⟨x, 1, rfl, by omega, by omega, by omega, HC.out.sa⟩
    · by_cases ht12 : t = 12
      · subst ht12
        rw [show ((12 : Nat) : Int) = 12 from rfl] at k1
        go_wp2
        go_ret2
        exact ⟨x, 2, rfl, by omega, by omega, by omega, HC.out.sa⟩
      · have e1 : ¬ (t : Int) = 0 := by omega
        have e2 : ¬ (t : Int) = 12 := by omega
        go_wp2
        go_ret2
        exact ⟨x, 0, rfl, by omega, by omega, by omega, HC.out.sa⟩
  · have h50' : ¬ (50 : Int) ≤ (ln : Int) := by omega
    go_wp2_with (go_at_call 127; fail)
    refine (smedian HN.out i j k (by omega) (by omega) (by omega) hm (by omega)).mono ?_
    rintro e w4 ⟨x, t, rfl, hx, ht, C4⟩
    have HC := Lib.hid C4
    have hx1 : a ≤ x ∧ x < b := by omega
    clear C4 hx
    have k1 := HC.out.cell
    by_cases ht0 : t = 0
    · subst ht0
      rw [show ((0 : Nat) : Int) = 0 from rfl] at k1
      go_wp2
      go_ret2
      exact ⟨x, 1, rfl, by omega, by omega, by omega, HC.out.sa⟩
    · by_cases ht12 : t = 12
      · subst ht12
        rw [show ((12 : Nat) : Int) = 12 from rfl] at k1
        go_wp2
        go_ret2
        exact ⟨x, 2, rfl, by omega, by omega, by omega, HC.out.sa⟩
      · have e1 : ¬ (t : Int) = 0 := by omega
        have e2 : ¬ (t : Int) = 12 := by omega
        go_wp2
        go_ret2
        exact ⟨x, 0, rfl, by omega, by omega, by omega, HC.out.sa⟩
end Go.Proofs.YtabdipfpfbdghaaGreat
