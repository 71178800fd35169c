/- The sort: the pivot's choice. -/
import Derived.Test.YtopikpjagjnbhaaSortHeap
namespace Go.Proofs.Ytopikpjagjnbhaa
open Go.RowKit
variable {w0 W : World} {hb gk kb n ck g c m : Nat} {ks : List Int} {d : Array Nat}
/-- A box of the sort's own, with a number in it. -/
structure Cn (w0 W : World) (hb gk kb n ck : Nat) (ks : List Int) (g c m : Nat) (d : Array Nat) (sb s : Nat) : Prop where
  sa : Sa w0 W hb gk kb n ck ks g c m d
  cell : W.cell? ⟨sb, 0, none⟩ = some (.int .i64 s)
  fr : W.frozen? ⟨sb, 0, none⟩ = false
  ne : sb ≠ g ∧ sb ≠ hb ∧ sb ≠ gk
  lo : w0.heap.size ≤ sb
theorem frozen_below {w W : World} (h : Below w.heap.size w W) {b o : Nat} {v : Value} (hc : w.cell? ⟨b, o, none⟩ = some v) (hf : w.frozen? ⟨b, o, none⟩ = false) : W.frozen? ⟨b, o, none⟩ = false := (bfroz h b o (World.block_lt_of_cell? _ _ hc)).trans hf
theorem Cn.below {W' : World} {sb s : Nat} (C : Cn w0 W hb gk kb n ck ks g c m d sb s) (h : Below W.heap.size W W') : Cn w0 W' hb gk kb n ck ks g c m d sb s :=
  ⟨C.sa.below h, cell_below h C.cell, frozen_below h C.cell C.fr, C.ne, C.lo⟩
theorem Cn.put {sb s : Nat} (C : Cn w0 W hb gk kb n ck ks g c m d sb s) (t : Nat) : Cn w0 (W.setCell ⟨sb, 0, none⟩ (.int .i64 t)) hb gk kb n ck ks g c m d sb t := by
  have c1 : Chg (fun k => k = sb) W (W.setCell ⟨sb, 0, none⟩ (.int .i64 t)) := (Chg.refl _ _).setCell _ _ _ rfl
  refine ⟨⟨c1.own C.sa.ro (fun k hk e => ?_), C.sa.kw.keep c1 (fun e => C.ne.2.1 e.symm) (fun e => C.ne.2.2 e.symm), C.sa.ne, C.sa.lt, c1.toBelow C.sa.bl C.sa.bl.size (fun k e => by rw [e]; exact C.lo)⟩, ?_, ?_, C.ne, C.lo⟩
  · cases hk
    exact C.ne.1 e.symm
  · exact World.cell?_setCell_same _ _ _ C.cell
  · rw [World.frozen?_setCell]; exact C.fr
set_option maxRecDepth 100000 in
set_option maxHeartbeats 8000000 in
/-- Two places, the lesser first. -/
theorem sorder2 {sb s : Nat} (C : Cn w0 W hb gk kb n ck ks g c m d sb s) (i j : Nat) (hi : i < m) (hj : j < m) (hm : m ≤ 4096) (hs : s ≤ 4096) :
    Calls Try.prog 84 #[.slice (some ⟨g, 0, none⟩) m c, .int .i64 i, .int .i64 j, .pointer (some ⟨sb, 0, none⟩), ordF hb] W fun e W' => ∃ x y t : Nat, e = .returned (.tuple #[.int .i64 x, .int .i64 y]) ∧ (x = i ∧ y = j ∨ x = j ∧ y = i) ∧ t ≤ s + 1 ∧ Cn w0 W' hb gk kb n ck ks g c m d sb t := by
  have HC := Lib.hid C
  have HS := Lib.hid C.sa
  clear C
  go_enter Try.func84, Try.ntmps84
  go_wp2
  cases hv : ltF ks d[j]! d[i]! with
  | true =>
    obtain ⟨iN1, hiN1⟩ : ∃ q, q = j := ⟨_, rfl⟩
    obtain ⟨jN1, hjN1⟩ : ∃ q, q = i := ⟨_, rfl⟩
    have ea1 : ((j : Int)).toNat = iN1 := by omega
    have pa1 : (0 : Int) ≤ (j : Int) := by omega
    have sa1 : (j : Int) < (m : Int) := by omega
    have ra1 : IntKind.i64.wrap ((j : Int)) = (j : Int) := by rw [IntKind.wrap_i64] <;> omega
    have eb1 : ((i : Int)).toNat = jN1 := by omega
    have pb1 : (0 : Int) ≤ (i : Int) := by omega
    have sb1 : (i : Int) < (m : Int) := by omega
    have rb1 : IntKind.i64.wrap ((i : Int)) = (i : Int) := by rw [IntKind.wrap_i64] <;> omega
    obtain ⟨x1, hx1⟩ : ∃ x, x = d[j]! := ⟨_, rfl⟩
    obtain ⟨y1, hy1⟩ : ∃ x, x = d[i]! := ⟨_, rfl⟩
    have q1 := HS.out.cell (show j < m by omega)
    rw [← hx1, ← hiN1] at q1
    have q2 := HS.out.cell (show i < m by omega)
    rw [← hy1, ← hjN1] at q2
    have q3 := fun p => HS.out.cmp (HS.out.at' (show j < m by omega)).2.2 (HS.out.at' (show i < m by omega)).2.2 p
    rw [← hx1, ← hy1] at q3
    have hv1 : ordV ks x1 y1 < 0 := by rw [hx1, hy1]; exact of_decide_eq_true hv
    generalize ordV ks x1 y1 = ov1 at hv1 q3
    have hd1 : decide (ov1 < 0) = true := decide_eq_true hv1
    clear hx1 hy1 hiN1 hjN1
    go_wp2_with fail
    refine wp_behind (by kernel_rfl) (by kernel_rfl) ?_
    repeat (quiet_step (exact q3 _))
    refine wpQuiet_nil ?_
    rintro W2 ⟨⟨_, hbW2⟩, rfl⟩
    clear q1 q2 q3 hv1 hd1 pa1 sa1 ra1 pb1 sb1 rb1 ea1 eb1
    have SW2 := Lib.hid (HS.out.below hbW2)
    have HC2 := Lib.hid (HC.out.below hbW2)
    have k1 := HC2.out.cell
    have k2 := HC2.out.fr
    have HC3 := Lib.hid (HC2.out.put (s + 1))
    have e1 : IntKind.i64.wrap ((s : Int) + 1) = ((s + 1 : Nat) : Int) := by rw [IntKind.wrap_i64] <;> omega
    go_wp2
    go_ret2
    exact ⟨j, i, s + 1, rfl, .inr ⟨rfl, rfl⟩, Nat.le_refl _, HC3.out⟩
  | false =>
    obtain ⟨iN2, hiN2⟩ : ∃ q, q = j := ⟨_, rfl⟩
    obtain ⟨jN2, hjN2⟩ : ∃ q, q = i := ⟨_, rfl⟩
    have ea2 : ((j : Int)).toNat = iN2 := by omega
    have pa2 : (0 : Int) ≤ (j : Int) := by omega
    have sa2 : (j : Int) < (m : Int) := by omega
    have ra2 : IntKind.i64.wrap ((j : Int)) = (j : Int) := by rw [IntKind.wrap_i64] <;> omega
    have eb2 : ((i : Int)).toNat = jN2 := by omega
    have pb2 : (0 : Int) ≤ (i : Int) := by omega
    have sb2 : (i : Int) < (m : Int) := by omega
    have rb2 : IntKind.i64.wrap ((i : Int)) = (i : Int) := by rw [IntKind.wrap_i64] <;> omega
    obtain ⟨x2, hx2⟩ : ∃ x, x = d[j]! := ⟨_, rfl⟩
    obtain ⟨y2, hy2⟩ : ∃ x, x = d[i]! := ⟨_, rfl⟩
    have q1 := HS.out.cell (show j < m by omega)
    rw [← hx2, ← hiN2] at q1
    have q2 := HS.out.cell (show i < m by omega)
    rw [← hy2, ← hjN2] at q2
    have q3 := fun p => HS.out.cmp (HS.out.at' (show j < m by omega)).2.2 (HS.out.at' (show i < m by omega)).2.2 p
    rw [← hx2, ← hy2] at q3
    have hv1 : ¬ ordV ks x2 y2 < 0 := by rw [hx2, hy2]; exact of_decide_eq_false hv
    generalize ordV ks x2 y2 = ov2 at hv1 q3
    have hd1 : decide (ov2 < 0) = false := decide_eq_false hv1
    clear hx2 hy2 hiN2 hjN2
    go_wp2_with fail
    refine wp_behind (by kernel_rfl) (by kernel_rfl) ?_
    repeat (quiet_step (exact q3 _))
    refine wpQuiet_nil ?_
    rintro W2 ⟨⟨_, hbW2⟩, rfl⟩
    clear q1 q2 q3 hv1 hd1 pa2 sa2 ra2 pb2 sb2 rb2 ea2 eb2
    have SW2 := Lib.hid (HS.out.below hbW2)
    have HC2 := Lib.hid (HC.out.below hbW2)
    go_wp2
    go_ret2
    exact ⟨i, j, s, rfl, .inl ⟨rfl, rfl⟩, Nat.le_succ _, HC2.out⟩
set_option maxRecDepth 100000 in
set_option maxHeartbeats 8000000 in
/-- The one in the middle. -/
theorem smedian {sb s : Nat} (C : Cn w0 W hb gk kb n ck ks g c m d sb s) (i j k : Nat) (hi : i < m) (hj : j < m) (hk : k < m) (hm : m ≤ 4096) (hs : s ≤ 4000) :
    Calls Try.prog 83 #[.slice (some ⟨g, 0, none⟩) m c, .int .i64 i, .int .i64 j, .int .i64 k, .pointer (some ⟨sb, 0, none⟩), ordF hb] W fun e W' => ∃ x t : Nat, e = .returned (.int .i64 x) ∧ (x = i ∨ x = j ∨ x = k) ∧ t ≤ s + 3 ∧ Cn w0 W' hb gk kb n ck ks g c m d sb t := by
  have H1 := Lib.hid (sorder2 C i j hi hj hm (by omega))
  clear C
  go_enter Try.func83, Try.ntmps83
  go_wp2_with (go_at_call 84; fail)
  refine H1.out.mono ?_
  rintro e w1 ⟨a1, b1, s1, rfl, h1, t1, C1⟩
  have H2 := Lib.hid (sorder2 C1 b1 k (by omega) hk hm (by omega))
  clear C1
  go_wp2_with (go_at_call 84; fail)
  refine H2.out.mono ?_
  rintro e w2 ⟨a2, b2, s2, rfl, h2, t2, C2⟩
  have H3 := Lib.hid (sorder2 C2 a1 a2 (by omega) (by omega) hm (by omega))
  clear C2
  go_wp2_with (go_at_call 84; fail)
  refine H3.out.mono ?_
  rintro e w3 ⟨a3, b3, s3, rfl, h3, t3, C3⟩
  have HC3 := Lib.hid C3
  clear C3
  go_wp2
  go_ret
  exact ⟨b3, s3, rfl, by omega, by omega, HC3.out⟩
set_option maxRecDepth 100000 in
set_option maxHeartbeats 8000000 in
/-- The one in the middle of three side by side. -/
theorem snear {sb s : Nat} (C : Cn w0 W hb gk kb n ck ks g c m d sb s) (i : Nat) (hi : 0 < i) (hi2 : i + 1 < m) (hm : m ≤ 4096) (hs : s ≤ 4000) :
    Calls Try.prog 82 #[.slice (some ⟨g, 0, none⟩) m c, .int .i64 i, .pointer (some ⟨sb, 0, none⟩), ordF hb] W fun e W' => ∃ x t : Nat, e = .returned (.int .i64 x) ∧ (i ≤ x + 1 ∧ x ≤ i + 1) ∧ t ≤ s + 3 ∧ Cn w0 W' hb gk kb n ck ks g c m d sb t := by
  have H1 := smedian C (i - 1) i (i + 1) (by omega) (by omega) hi2 hm hs
  have e1 : ((i - 1 : Nat) : Int) = (i : Int) - 1 := by omega
  have e2 : ((i + 1 : Nat) : Int) = (i : Int) + 1 := by omega
  rw [e1, e2] at H1
  have e3 : IntKind.i64.wrap ((i : Int) - 1) = (i : Int) - 1 := by rw [IntKind.wrap_i64] <;> omega
  have e4 : IntKind.i64.wrap ((i : Int) + 1) = (i : Int) + 1 := by rw [IntKind.wrap_i64] <;> omega
  have HC := Lib.hid H1
  clear C H1 e1 e2
  go_enter Try.func82, Try.ntmps82
  go_wp2_with (go_at_call 83; fail)
  refine HC.out.mono ?_
  rintro e w3 ⟨b3, s3, rfl, h3, t3, C3⟩
  have HC3 := Lib.hid C3
  clear C3
  go_wp2
  go_ret
  exact ⟨b3, s3, rfl, by omega, t3, HC3.out⟩
end Go.Proofs.Ytopikpjagjnbhaa
