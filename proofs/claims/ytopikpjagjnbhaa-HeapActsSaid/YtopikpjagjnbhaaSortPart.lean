/- The sort: the partition. -/
import Derived.Test.YtopikpjagjnbhaaSortPivot
import Derived.Deep.CutBlock
import Derived.Deep.DeepCutAuto
namespace Go.Proofs.Ytopikpjagjnbhaa
open Go.RowKit
variable {w0 W : World} {hb gk kb n ck g c m : Nat} {ks : List Int} {d : Array Nat}
theorem up_go (p : Nat → Bool) (d : Array Nat) (j i : Nat) (h : i ≤ j) (hp : p d[i]! = true) : Sort.scanUp p d j i = Sort.scanUp p d j (i + 1) := by
  conv => lhs; rw [Sort.scanUp]
  rw [if_pos (by simp [h, hp])]
theorem up_no (p : Nat → Bool) (d : Array Nat) (j i : Nat) (hp : p d[i]! = false) : Sort.scanUp p d j i = i := by
  rw [Sort.scanUp, if_neg (by simp [hp])]
theorem up_end (p : Nat → Bool) (d : Array Nat) (j i : Nat) (h : ¬ i ≤ j) : Sort.scanUp p d j i = i := by
  rw [Sort.scanUp, if_neg (by simp; omega)]
theorem down_go (p : Nat → Bool) (d : Array Nat) (i j : Nat) (h : i ≤ j + 1) (hp : p d[j + 1]! = true) : Sort.scanDown p d i (j + 1) = Sort.scanDown p d i j := by
  rw [Sort.scanDown, if_pos (by simp [h, hp])]
theorem down_no (p : Nat → Bool) (d : Array Nat) (i j : Nat) (hp : p d[j + 1]! = false) : Sort.scanDown p d i (j + 1) = j + 1 := by
  rw [Sort.scanDown, if_neg (by simp [hp])]
theorem down_end (p : Nat → Bool) (d : Array Nat) (i j : Nat) (h : ¬ i ≤ j) : Sort.scanDown p d i j = j := by
  cases j with
  | zero => rw [Sort.scanDown]
  | succ j => rw [Sort.scanDown, if_neg (by simp; omega)]
theorem part_lt (lt : Nat → Nat → Bool) (a : Nat) (d : Array Nat) (j i x y : Nat) (hi : 0 < i) (hx : x = Sort.scanUp (fun x => lt x d[a]!) d j i) (hy : y = Sort.scanDown (fun x => !lt x d[a]!) d x j) (h1 : i ≤ x) (h2 : y ≤ j) (h : ¬ y < x) : x < y := by
  have s1 := (Sort.scanUp_spec (fun x => lt x d[a]!) d j _ i rfl).2.2.2
  have s2 := (Sort.scanDown_spec (fun x => !lt x d[a]!) d x j).2.2.2
  rw [← hx] at s1
  rw [← hy] at s2
  rcases Nat.lt_or_ge x y with h3 | h3
  · exact h3
  · have e : x = y := by omega
    subst e
    have a1 : lt d[x]! d[a]! = false := s1 (by omega)
    have a2 : (!lt d[x]! d[a]!) = false := s2 (Nat.le_refl _) (by omega)
    rw [a1] at a2
    exact absurd a2 (by simp)
theorem part_one (lt : Nat → Nat → Bool) (d : Array Nat) (a b p : Nat) (d1 : Array Nat) (j i x y : Nat) (h1 : d1 = Sort.swp d a p) (hi : i = a + 1) (hj : j = b - 1) (hx : x = Sort.scanUp (fun x => lt x d1[a]!) d1 j i) (hy : y = Sort.scanDown (fun x => !lt x d1[a]!) d1 x j) (h : y < x) : Sort.partition lt d a b p = (y, true, Sort.swp d1 y a) := by
  unfold Sort.partition
  simp only
  rw [← h1, ← hi, ← hj, ← hx, ← hy, if_pos h]
theorem part_two (lt : Nat → Nat → Bool) (d : Array Nat) (a b p : Nat) (d1 : Array Nat) (j i x y : Nat) (h1 : d1 = Sort.swp d a p) (hi : i = a + 1) (hj : j = b - 1) (hx : x = Sort.scanUp (fun x => lt x d1[a]!) d1 j i) (hy : y = Sort.scanDown (fun x => !lt x d1[a]!) d1 x j) (h : ¬ y < x) :
    Sort.partition lt d a b p = ((Sort.partLoop lt a (x + 1) (y - 1) (Sort.swp d1 x y)).1, false, Sort.swp (Sort.partLoop lt a (x + 1) (y - 1) (Sort.swp d1 x y)).2 (Sort.partLoop lt a (x + 1) (y - 1) (Sort.swp d1 x y)).1 a) := by
  unfold Sort.partition
  simp only
  rw [← h1, ← hi, ← hj, ← hx, ← hy, if_neg h]
theorem loop_one (lt : Nat → Nat → Bool) (a : Nat) (d : Array Nat) (j i x y : Nat) (hx : x = Sort.scanUp (fun x => lt x d[a]!) d j i) (hy : y = Sort.scanDown (fun x => !lt x d[a]!) d x j) (h : y < x) : Sort.partLoop lt a i j d = (y, d) := by
  rw [Sort.partLoop_eq, ← hx, ← hy, if_pos h]
theorem loop_two (lt : Nat → Nat → Bool) (a : Nat) (d : Array Nat) (j i x y : Nat) (hx : x = Sort.scanUp (fun x => lt x d[a]!) d j i) (hy : y = Sort.scanDown (fun x => !lt x d[a]!) d x j) (h : ¬ y < x) : Sort.partLoop lt a i j d = Sort.partLoop lt a (x + 1) (y - 1) (Sort.swp d x y) := by
  rw [Sort.partLoop_eq, ← hx, ← hy, if_neg h]
set_option maxRecDepth 100000 in
set_option maxHeartbeats 8000000 in
/-- The partition. -/
theorem spart (S : Sa w0 W hb gk kb n ck ks g c m d) (a b p : Nat) (hap : a ≤ p) (hpb : p < b) (hbm : b ≤ m) (hm : m ≤ 4096) :
    Calls Try.prog 71 #[.slice (some ⟨g, 0, none⟩) m c, .int .i64 a, .int .i64 b, .int .i64 p, ordF hb] W fun e W' => e = .returned (.tuple #[.int .i64 (Sort.partition (ltF ks) d a b p).1, .bool (Sort.partition (ltF ks) d a b p).2.1]) ∧ Sa w0 W' hb gk kb n ck ks g c m (Sort.partition (ltF ks) d a b p).2.2 := by
  have HS := Lib.hid S
  clear S
  obtain ⟨i0, hi0⟩ : ∃ q, q = a + 1 := ⟨_, rfl⟩
  obtain ⟨j0, hj0⟩ : ∃ q, q = b - 1 := ⟨_, rfl⟩
  have z1 : (a : Int) + 1 = (i0 : Int) := by omega
  have z2 : (b : Int) - 1 = (j0 : Int) := by omega
  have z3 : IntKind.i64.wrap (i0 : Int) = (i0 : Int) := by rw [IntKind.wrap_i64] <;> omega
  have z4 : IntKind.i64.wrap (j0 : Int) = (j0 : Int) := by rw [IntKind.wrap_i64] <;> omega
  have z5 : i0 ≤ j0 + 1 ∧ j0 < m ∧ a < i0 ∧ a < m := by omega
  have HI0 := Lib.hid hi0
  have HJ0 := Lib.hid hj0
  clear hi0 hj0
  go_enter Try.func71, Try.ntmps71
  obtain ⟨iN1, hiN1⟩ : ∃ qq, qq = a := ⟨_, rfl⟩
  obtain ⟨jN1, hjN1⟩ : ∃ qq, qq = p := ⟨_, rfl⟩
  have ea1 : ((a : Int)).toNat = iN1 := by omega
  have pa1 : (0 : Int) ≤ (a : Int) := by omega
  have sa1 : (a : Int) < (m : Int) := by omega
  have ra1 : IntKind.i64.wrap ((a : Int)) = (a : Int) := by rw [IntKind.wrap_i64] <;> omega
  have eb1 : ((p : Int)).toNat = jN1 := by omega
  have pb1 : (0 : Int) ≤ (p : Int) := by omega
  have sb1 : (p : Int) < (m : Int) := by omega
  have rb1 : IntKind.i64.wrap ((p : Int)) = (p : Int) := by rw [IntKind.wrap_i64] <;> omega
  have SW1 := Lib.hid (HS.out.swap (show a < m by omega) (show p < m by omega))
  obtain ⟨x1, hx1⟩ : ∃ qq, qq = d[a]! := ⟨_, rfl⟩
  obtain ⟨y1, hy1⟩ : ∃ qq, qq = d[p]! := ⟨_, rfl⟩
  have c1 : W.cell? ⟨g, iN1, none⟩ = some (.int .i64 (x1 : Nat)) := by rw [hiN1, hx1]; exact (HS.out.at' (show a < m by omega)).1
  have f1 : W.frozen? ⟨g, iN1, none⟩ = false := by rw [hiN1]; exact (HS.out.at' (show a < m by omega)).2.1
  have c2 : W.cell? ⟨g, jN1, none⟩ = some (.int .i64 (y1 : Nat)) := by rw [hjN1, hy1]; exact (HS.out.at' (show p < m by omega)).1
  have f2 : W.frozen? ⟨g, jN1, none⟩ = false := by rw [hjN1]; exact (HS.out.at' (show p < m by omega)).2.1
  obtain ⟨u3, c3⟩ : ∃ u, (W.setCell ⟨g, iN1, none⟩ (.int .i64 (y1 : Nat))).cell? ⟨g, jN1, none⟩ = some u := by rw [hiN1, hjN1, hy1]; exact HS.out.two (show a < m by omega) (show p < m by omega)
  have E1 : ((W.setCell ⟨g, a, none⟩ (.int .i64 (d[p]! : Nat))).setCell ⟨g, p, none⟩ (.int .i64 (d[a]! : Nat))).drew = ((W.setCell ⟨g, iN1, none⟩ (.int .i64 y1)).setCell ⟨g, jN1, none⟩ (.int .i64 x1)).drew := by rw [hx1, hy1, hiN1, hjN1]
  rw [E1] at SW1
  clear E1 hx1 hy1 hiN1 hjN1
  go_wp2_with fail
  go_big_region
  clear c1 c2 c3 f1 f2 pa1 sa1 ra1 pb1 sb1 rb1 ea1 eb1
  generalize ((W.setCell ⟨g, iN1, none⟩ (.int .i64 y1)).setCell ⟨g, jN1, none⟩ (.int .i64 x1)).drew = W1 at SW1 ⊢
  obtain ⟨d1, hd1'⟩ : ∃ q, q = Sort.swp d a p := ⟨_, rfl⟩
  rw [← hd1'] at SW1
  have HD1 := Lib.hid hd1'
  clear hd1' HS
  go_upto_block 0 with fail
  clear z1 z2 z3 z4
  go_cut [12] (fun s12 wc => ∃ x : Nat, s12 = .int .i64 x ∧ i0 ≤ x ∧ x ≤ j0 + 1 ∧ Hid (x = Sort.scanUp (fun x => ltF ks x d1[a]!) d1 j0 i0) ∧ Hid (Sa w0 wc hb gk kb n ck ks g c m d1))
  case first =>
    go_wp2_with fail
    go_loopw [12] (fun vi wr => ∃ k : Nat, i0 ≤ k ∧ k ≤ j0 + 1 ∧ vi = .int .i64 k ∧ Hid (Sa w0 wr hb gk kb n ck ks g c m d1) ∧ Hid (Sort.scanUp (fun x => ltF ks x d1[a]!) d1 j0 k = Sort.scanUp (fun x => ltF ks x d1[a]!) d1 j0 i0)) (fun vi _ => j0 + 1 - (intOf vi).toNat)
    case atStart => exact ⟨i0, Nat.le_refl _, by omega, rfl, SW1, (show Hid _ from rfl)⟩
    case round =>
      obtain ⟨k, hk1, hk2, rfl, HSk, HUk⟩ := hrel
      by_cases hkj : k ≤ j0
      · have hkj' : (k : Int) ≤ (j0 : Int) := by omega
        have hkd : decide (k ≤ j0) = true := decide_eq_true hkj
        cases hv : ltF ks d1[k]! d1[a]! with
        | true =>
          obtain ⟨iN2, hiN2⟩ : ∃ qq, qq = k := ⟨_, rfl⟩
          obtain ⟨jN2, hjN2⟩ : ∃ qq, qq = a := ⟨_, rfl⟩
          have ea2 : ((k : Int)).toNat = iN2 := by omega
          have pa2 : (0 : Int) ≤ (k : Int) := by omega
          have sa2 : (k : Int) < (m : Int) := by omega
          have ra2 : IntKind.i64.wrap ((k : Int)) = (k : Int) := by rw [IntKind.wrap_i64] <;> omega
          have eb2 : ((a : Int)).toNat = jN2 := by omega
          have pb2 : (0 : Int) ≤ (a : Int) := by omega
          have sb2 : (a : Int) < (m : Int) := by omega
          have rb2 : IntKind.i64.wrap ((a : Int)) = (a : Int) := by rw [IntKind.wrap_i64] <;> omega
          obtain ⟨x2, hx2⟩ : ∃ qq, qq = d1[k]! := ⟨_, rfl⟩
          obtain ⟨y2, hy2⟩ : ∃ qq, qq = d1[a]! := ⟨_, rfl⟩
          have q1 := HSk.out.cell (show k < m by omega)
          rw [← hx2, ← hiN2] at q1
          have q2 := HSk.out.cell (show a < m by omega)
          rw [← hy2, ← hjN2] at q2
          have q3 := fun p => HSk.out.cmp (HSk.out.at' (show k < m by omega)).2.2 (HSk.out.at' (show a < m by omega)).2.2 p
          rw [← hx2, ← hy2] at q3
          have hv1 : ordV ks x2 y2 < 0 := by rw [hx2, hy2]; exact of_decide_eq_true hv
          generalize ordV ks x2 y2 = ov2 at hv1 q3
          have hd1 : decide (ov2 < 0) = true := decide_eq_true hv1
          clear hx2 hy2 hiN2 hjN2
          go_wp2_with fail
          refine wp_behind (by kernel_rfl) (by kernel_rfl) ?_
          repeat (quiet_step (exact q3 _))
          refine wpQuiet_nil ?_
          rintro W2 ⟨⟨_, hbW2⟩, rfl⟩
          clear q1 q2 q3 hv1 hd1 pa2 sa2 ra2 pb2 sb2 rb2 ea2 eb2
          have SW2 := Lib.hid (HSk.out.below hbW2)
          have HG := Lib.hid ((up_go (fun x => ltF ks x d1[a]!) d1 j0 k hkj hv).symm.trans HUk.out)
          have e1 : IntKind.i64.wrap ((k : Int) + 1) = (k : Int) + 1 := by rw [IntKind.wrap_i64] <;> omega
          clear hv
          go_wp2
          go_roundw
          case rel => exact ⟨k + 1, by omega, by omega, by go_num, SW2, HG⟩
          case measure => simp only [intOf]; omega
        | false =>
          obtain ⟨iN3, hiN3⟩ : ∃ qq, qq = k := ⟨_, rfl⟩
          obtain ⟨jN3, hjN3⟩ : ∃ qq, qq = a := ⟨_, rfl⟩
          have ea3 : ((k : Int)).toNat = iN3 := by omega
          have pa3 : (0 : Int) ≤ (k : Int) := by omega
          have sa3 : (k : Int) < (m : Int) := by omega
          have ra3 : IntKind.i64.wrap ((k : Int)) = (k : Int) := by rw [IntKind.wrap_i64] <;> omega
          have eb3 : ((a : Int)).toNat = jN3 := by omega
          have pb3 : (0 : Int) ≤ (a : Int) := by omega
          have sb3 : (a : Int) < (m : Int) := by omega
          have rb3 : IntKind.i64.wrap ((a : Int)) = (a : Int) := by rw [IntKind.wrap_i64] <;> omega
          obtain ⟨x3, hx3⟩ : ∃ qq, qq = d1[k]! := ⟨_, rfl⟩
          obtain ⟨y3, hy3⟩ : ∃ qq, qq = d1[a]! := ⟨_, rfl⟩
          have q1 := HSk.out.cell (show k < m by omega)
          rw [← hx3, ← hiN3] at q1
          have q2 := HSk.out.cell (show a < m by omega)
          rw [← hy3, ← hjN3] at q2
          have q3 := fun p => HSk.out.cmp (HSk.out.at' (show k < m by omega)).2.2 (HSk.out.at' (show a < m by omega)).2.2 p
          rw [← hx3, ← hy3] at q3
          have hv1 : ¬ ordV ks x3 y3 < 0 := by rw [hx3, hy3]; exact of_decide_eq_false hv
          generalize ordV ks x3 y3 = ov3 at hv1 q3
          have hd1 : decide (ov3 < 0) = false := decide_eq_false hv1
          clear hx3 hy3 hiN3 hjN3
          go_wp2_with fail
          refine wp_behind (by kernel_rfl) (by kernel_rfl) ?_
          repeat (quiet_step (exact q3 _))
          refine wpQuiet_nil ?_
          rintro W2 ⟨⟨_, hbW2⟩, rfl⟩
          clear q1 q2 q3 hv1 hd1 pa3 sa3 ra3 pb3 sb3 rb3 ea3 eb3
          have SW2 := Lib.hid (HSk.out.below hbW2)
          have HG := Lib.hid ((up_no (fun x => ltF ks x d1[a]!) d1 j0 k hv).symm.trans HUk.out)
          clear hv
          go_wp2_with fail
          go_meet
          case rel => exact ⟨k, rfl, by omega, by omega, HG, SW2⟩
      · have hkj' : ¬ (k : Int) ≤ (j0 : Int) := by omega
        have hkd : decide (k ≤ j0) = false := decide_eq_false hkj
        have HG := Lib.hid ((up_end (fun x => ltF ks x d1[a]!) d1 j0 k hkj).symm.trans HUk.out)
        go_wp2_with fail
        go_big_region
        have SW2 := Lib.hid (HSk.out.below (below_dr (Below.refl wr.heap.size wr) 1))
        change Hid (Sa _ wr.drew _ _ _ _ _ _ _ _ _ _) at SW2
        generalize wr.drew = W2 at SW2 ⊢
        go_wp2_with fail
        go_meet
        case rel => exact ⟨k, rfl, by omega, by omega, HG, SW2⟩
  case rest =>
    obtain ⟨x, rfl, hx1, hx2, HX, SX⟩ := hcut
    obtain ⟨WX, rfl⟩ : ∃ q, q = wc := ⟨_, rfl⟩
    clear SW1
    go_upto_block 2 with fail
    go_cut [13] (fun s13 wc => ∃ y : Nat, s13 = .int .i64 y ∧ y ≤ j0 ∧ x ≤ y + 1 ∧ Hid (y = Sort.scanDown (fun x => !ltF ks x d1[a]!) d1 x j0) ∧ Hid (Sa w0 wc hb gk kb n ck ks g c m d1))
    case first =>
      go_wp2_with fail
      go_loopw [13] (fun vi wr => ∃ k : Nat, k ≤ j0 ∧ x ≤ k + 1 ∧ vi = .int .i64 k ∧ Hid (Sa w0 wr hb gk kb n ck ks g c m d1) ∧ Hid (Sort.scanDown (fun x => !ltF ks x d1[a]!) d1 x k = Sort.scanDown (fun x => !ltF ks x d1[a]!) d1 x j0)) (fun vi _ => (intOf vi).toNat)
      case atStart => exact ⟨j0, Nat.le_refl _, by omega, rfl, SX, (show Hid _ from rfl)⟩
      case round =>
        obtain ⟨k, hk1, hk2, rfl, HSk, HUk⟩ := hrel
        by_cases hkj : x ≤ k
        · have hkj' : (x : Int) ≤ (k : Int) := by omega
          have hkd : decide (x ≤ k) = true := decide_eq_true hkj
          obtain ⟨k1, hk3⟩ : ∃ q, k = q + 1 := ⟨k - 1, by omega⟩
          cases hv : ltF ks d1[k]! d1[a]! with
          | true =>
            have HG := Lib.hid ((show Sort.scanDown (fun x => !ltF ks x d1[a]!) d1 x k = k by rw [hk3] at hv ⊢; exact down_no _ _ _ _ (by simp only [hv]; rfl)).symm.trans HUk.out)
            clear hk3
            obtain ⟨iN4, hiN4⟩ : ∃ qq, qq = k := ⟨_, rfl⟩
            obtain ⟨jN4, hjN4⟩ : ∃ qq, qq = a := ⟨_, rfl⟩
            have ea4 : ((k : Int)).toNat = iN4 := by omega
            have pa4 : (0 : Int) ≤ (k : Int) := by omega
            have sa4 : (k : Int) < (m : Int) := by omega
            have ra4 : IntKind.i64.wrap ((k : Int)) = (k : Int) := by rw [IntKind.wrap_i64] <;> omega
            have eb4 : ((a : Int)).toNat = jN4 := by omega
            have pb4 : (0 : Int) ≤ (a : Int) := by omega
            have sb4 : (a : Int) < (m : Int) := by omega
            have rb4 : IntKind.i64.wrap ((a : Int)) = (a : Int) := by rw [IntKind.wrap_i64] <;> omega
            obtain ⟨x4, hx4⟩ : ∃ qq, qq = d1[k]! := ⟨_, rfl⟩
            obtain ⟨y4, hy4⟩ : ∃ qq, qq = d1[a]! := ⟨_, rfl⟩
            have q1 := HSk.out.cell (show k < m by omega)
            rw [← hx4, ← hiN4] at q1
            have q2 := HSk.out.cell (show a < m by omega)
            rw [← hy4, ← hjN4] at q2
            have q3 := fun p => HSk.out.cmp (HSk.out.at' (show k < m by omega)).2.2 (HSk.out.at' (show a < m by omega)).2.2 p
            rw [← hx4, ← hy4] at q3
            have hv1 : ordV ks x4 y4 < 0 := by rw [hx4, hy4]; exact of_decide_eq_true hv
            generalize ordV ks x4 y4 = ov4 at hv1 q3
            have hd1 : decide (ov4 < 0) = true := decide_eq_true hv1
            clear hx4 hy4 hiN4 hjN4
            go_wp2_with fail
            refine wp_behind (by kernel_rfl) (by kernel_rfl) ?_
            repeat (quiet_step (exact q3 _))
            refine wpQuiet_nil ?_
            rintro W2 ⟨⟨_, hbW2⟩, rfl⟩
            clear q1 q2 q3 hv1 hd1 pa4 sa4 ra4 pb4 sb4 rb4 ea4 eb4
            have SW2 := Lib.hid (HSk.out.below hbW2)
            clear hv
            go_wp2_with fail
            go_meet
            case rel => exact ⟨k, rfl, by omega, by omega, HG, SW2⟩
          | false =>
            have HG := Lib.hid ((show Sort.scanDown (fun x => !ltF ks x d1[a]!) d1 x k = Sort.scanDown (fun x => !ltF ks x d1[a]!) d1 x k1 by rw [hk3] at hv hkj ⊢; exact down_go _ _ _ _ hkj (by simp only [hv]; rfl)).symm.trans HUk.out)
            have hk4 : k1 < k := by omega
            have hk5 : (k : Int) - 1 = (k1 : Int) := by omega
            have hk6 : x ≤ k1 + 1 := by omega
            have e1 : IntKind.i64.wrap (k1 : Int) = (k1 : Int) := by rw [IntKind.wrap_i64] <;> omega
            clear hk3
            obtain ⟨iN5, hiN5⟩ : ∃ qq, qq = k := ⟨_, rfl⟩
            obtain ⟨jN5, hjN5⟩ : ∃ qq, qq = a := ⟨_, rfl⟩
            have ea5 : ((k : Int)).toNat = iN5 := by omega
            have pa5 : (0 : Int) ≤ (k : Int) := by omega
            have sa5 : (k : Int) < (m : Int) := by omega
            have ra5 : IntKind.i64.wrap ((k : Int)) = (k : Int) := by rw [IntKind.wrap_i64] <;> omega
            have eb5 : ((a : Int)).toNat = jN5 := by omega
            have pb5 : (0 : Int) ≤ (a : Int) := by omega
            have sb5 : (a : Int) < (m : Int) := by omega
            have rb5 : IntKind.i64.wrap ((a : Int)) = (a : Int) := by rw [IntKind.wrap_i64] <;> omega
            obtain ⟨x5, hx5⟩ : ∃ qq, qq = d1[k]! := ⟨_, rfl⟩
            obtain ⟨y5, hy5⟩ : ∃ qq, qq = d1[a]! := ⟨_, rfl⟩
            have q1 := HSk.out.cell (show k < m by omega)
            rw [← hx5, ← hiN5] at q1
            have q2 := HSk.out.cell (show a < m by omega)
            rw [← hy5, ← hjN5] at q2
            have q3 := fun p => HSk.out.cmp (HSk.out.at' (show k < m by omega)).2.2 (HSk.out.at' (show a < m by omega)).2.2 p
            rw [← hx5, ← hy5] at q3
            have hv1 : ¬ ordV ks x5 y5 < 0 := by rw [hx5, hy5]; exact of_decide_eq_false hv
            generalize ordV ks x5 y5 = ov5 at hv1 q3
            have hd1 : decide (ov5 < 0) = false := decide_eq_false hv1
            clear hx5 hy5 hiN5 hjN5
            go_wp2_with fail
            refine wp_behind (by kernel_rfl) (by kernel_rfl) ?_
            repeat (quiet_step (exact q3 _))
            refine wpQuiet_nil ?_
            rintro W2 ⟨⟨_, hbW2⟩, rfl⟩
            clear q1 q2 q3 hv1 hd1 pa5 sa5 ra5 pb5 sb5 rb5 ea5 eb5
            have SW2 := Lib.hid (HSk.out.below hbW2)
            clear hv
            go_wp2
            go_roundw
            case rel => exact ⟨k1, by omega, hk6, rfl, SW2, HG⟩
            case measure => simp only [intOf]; omega
        · have hkj' : ¬ (x : Int) ≤ (k : Int) := by omega
          have hkd : decide (x ≤ k) = false := decide_eq_false hkj
          have HG := Lib.hid ((down_end (fun x => !ltF ks x d1[a]!) d1 x k hkj).symm.trans HUk.out)
          go_wp2_with fail
          go_big_region
          have SW2 := Lib.hid (HSk.out.below (below_dr (Below.refl wr.heap.size wr) 1))
          change Hid (Sa _ wr.drew _ _ _ _ _ _ _ _ _ _) at SW2
          generalize wr.drew = W2 at SW2 ⊢
          go_wp2_with fail
          go_meet
          case rel => exact ⟨k, rfl, by omega, by omega, HG, SW2⟩
    case rest =>
      obtain ⟨y, rfl, hy1, hy2, HY, SY⟩ := hcut
      obtain ⟨WY, rfl⟩ : ∃ q, q = wc := ⟨_, rfl⟩
      clear SX
      by_cases hxy : y < x
      · have hxy' : (y : Int) < (x : Int) := by omega
        have HP := Lib.hid (part_one (ltF ks) d a b p d1 j0 i0 x y HD1.out HI0.out HJ0.out HX.out HY.out hxy)
        obtain ⟨iN6, hiN6⟩ : ∃ qq, qq = y := ⟨_, rfl⟩
        obtain ⟨jN6, hjN6⟩ : ∃ qq, qq = a := ⟨_, rfl⟩
        have ea6 : ((y : Int)).toNat = iN6 := by omega
        have pa6 : (0 : Int) ≤ (y : Int) := by omega
        have sa6 : (y : Int) < (m : Int) := by omega
        have ra6 : IntKind.i64.wrap ((y : Int)) = (y : Int) := by rw [IntKind.wrap_i64] <;> omega
        have eb6 : ((a : Int)).toNat = jN6 := by omega
        have pb6 : (0 : Int) ≤ (a : Int) := by omega
        have sb6 : (a : Int) < (m : Int) := by omega
        have rb6 : IntKind.i64.wrap ((a : Int)) = (a : Int) := by rw [IntKind.wrap_i64] <;> omega
        have SW5 := Lib.hid (SY.out.swap (show y < m by omega) (show a < m by omega))
        obtain ⟨x6, hx6⟩ : ∃ qq, qq = d1[y]! := ⟨_, rfl⟩
        obtain ⟨y6, hy6⟩ : ∃ qq, qq = d1[a]! := ⟨_, rfl⟩
        have c1 : WY.cell? ⟨g, iN6, none⟩ = some (.int .i64 (x6 : Nat)) := by rw [hiN6, hx6]; exact (SY.out.at' (show y < m by omega)).1
        have f1 : WY.frozen? ⟨g, iN6, none⟩ = false := by rw [hiN6]; exact (SY.out.at' (show y < m by omega)).2.1
        have c2 : WY.cell? ⟨g, jN6, none⟩ = some (.int .i64 (y6 : Nat)) := by rw [hjN6, hy6]; exact (SY.out.at' (show a < m by omega)).1
        have f2 : WY.frozen? ⟨g, jN6, none⟩ = false := by rw [hjN6]; exact (SY.out.at' (show a < m by omega)).2.1
        obtain ⟨u3, c3⟩ : ∃ u, (WY.setCell ⟨g, iN6, none⟩ (.int .i64 (y6 : Nat))).cell? ⟨g, jN6, none⟩ = some u := by rw [hiN6, hjN6, hy6]; exact SY.out.two (show y < m by omega) (show a < m by omega)
        have E6 : ((WY.setCell ⟨g, y, none⟩ (.int .i64 (d1[a]! : Nat))).setCell ⟨g, a, none⟩ (.int .i64 (d1[y]! : Nat))).drew = ((WY.setCell ⟨g, iN6, none⟩ (.int .i64 y6)).setCell ⟨g, jN6, none⟩ (.int .i64 x6)).drew := by rw [hx6, hy6, hiN6, hjN6]
        rw [E6] at SW5
        clear E6 hx6 hy6 hiN6 hjN6
        go_wp2_with fail
        go_big_region
        clear c1 c2 c3 f1 f2 pa6 sa6 ra6 pb6 sb6 rb6 ea6 eb6
        generalize ((WY.setCell ⟨g, iN6, none⟩ (.int .i64 y6)).setCell ⟨g, jN6, none⟩ (.int .i64 x6)).drew = W5 at SW5 ⊢
        go_wp2
        go_ret2
        exact ⟨by rw [HP.out]; rfl, by rw [HP.out]; exact SW5.out⟩
      · have hxy' : ¬ (y : Int) < (x : Int) := by omega
        have hlt := part_lt (ltF ks) a d1 j0 i0 x y (by omega) HX.out HY.out (by omega) (by omega) hxy
        have HP := Lib.hid (part_two (ltF ks) d a b p d1 j0 i0 x y HD1.out HI0.out HJ0.out HX.out HY.out hxy)
        obtain ⟨y1, hy3⟩ : ∃ q, y = q + 1 := ⟨y - 1, by omega⟩
        have w1 : IntKind.i64.wrap ((x : Int) + 1) = (x : Int) + 1 := by rw [IntKind.wrap_i64] <;> omega
        have w2 : (y : Int) - 1 = (y1 : Int) := by omega
        have w3 : IntKind.i64.wrap (y1 : Int) = (y1 : Int) := by rw [IntKind.wrap_i64] <;> omega
        have w4 : y1 < y ∧ x ≤ y1 ∧ y1 < m ∧ y1 < j0 := by omega
        rw [show y - 1 = y1 by omega] at HP
        clear hy3
        obtain ⟨iN7, hiN7⟩ : ∃ qq, qq = x := ⟨_, rfl⟩
        obtain ⟨jN7, hjN7⟩ : ∃ qq, qq = y := ⟨_, rfl⟩
        have ea7 : ((x : Int)).toNat = iN7 := by omega
        have pa7 : (0 : Int) ≤ (x : Int) := by omega
        have sa7 : (x : Int) < (m : Int) := by omega
        have ra7 : IntKind.i64.wrap ((x : Int)) = (x : Int) := by rw [IntKind.wrap_i64] <;> omega
        have eb7 : ((y : Int)).toNat = jN7 := by omega
        have pb7 : (0 : Int) ≤ (y : Int) := by omega
        have sb7 : (y : Int) < (m : Int) := by omega
        have rb7 : IntKind.i64.wrap ((y : Int)) = (y : Int) := by rw [IntKind.wrap_i64] <;> omega
        have SW5 := Lib.hid (SY.out.swap (show x < m by omega) (show y < m by omega))
        obtain ⟨x7, hx7⟩ : ∃ qq, qq = d1[x]! := ⟨_, rfl⟩
        obtain ⟨y7, hy7⟩ : ∃ qq, qq = d1[y]! := ⟨_, rfl⟩
        have c1 : WY.cell? ⟨g, iN7, none⟩ = some (.int .i64 (x7 : Nat)) := by rw [hiN7, hx7]; exact (SY.out.at' (show x < m by omega)).1
        have f1 : WY.frozen? ⟨g, iN7, none⟩ = false := by rw [hiN7]; exact (SY.out.at' (show x < m by omega)).2.1
        have c2 : WY.cell? ⟨g, jN7, none⟩ = some (.int .i64 (y7 : Nat)) := by rw [hjN7, hy7]; exact (SY.out.at' (show y < m by omega)).1
        have f2 : WY.frozen? ⟨g, jN7, none⟩ = false := by rw [hjN7]; exact (SY.out.at' (show y < m by omega)).2.1
        obtain ⟨u3, c3⟩ : ∃ u, (WY.setCell ⟨g, iN7, none⟩ (.int .i64 (y7 : Nat))).cell? ⟨g, jN7, none⟩ = some u := by rw [hiN7, hjN7, hy7]; exact SY.out.two (show x < m by omega) (show y < m by omega)
        have E7 : ((WY.setCell ⟨g, x, none⟩ (.int .i64 (d1[y]! : Nat))).setCell ⟨g, y, none⟩ (.int .i64 (d1[x]! : Nat))).drew = ((WY.setCell ⟨g, iN7, none⟩ (.int .i64 y7)).setCell ⟨g, jN7, none⟩ (.int .i64 x7)).drew := by rw [hx7, hy7, hiN7, hjN7]
        rw [E7] at SW5
        clear E7 hx7 hy7 hiN7 hjN7
        go_wp2_with fail
        go_big_region
        clear c1 c2 c3 f1 f2 pa7 sa7 ra7 pb7 sb7 rb7 ea7 eb7
        generalize ((WY.setCell ⟨g, iN7, none⟩ (.int .i64 y7)).setCell ⟨g, jN7, none⟩ (.int .i64 x7)).drew = W5 at SW5 ⊢
        go_wp2_with fail
        go_loopw [12, 13] (fun vi vj wr => ∃ (i j : Nat) (d2 : Array Nat), a < i ∧ i ≤ j + 1 ∧ j < m ∧ vi = .int .i64 i ∧ vj = .int .i64 j ∧ Hid (Sa w0 wr hb gk kb n ck ks g c m d2) ∧ Hid (Sort.partLoop (ltF ks) a i j d2 = Sort.partLoop (ltF ks) a (x + 1) y1 (Sort.swp d1 x y))) (fun vi vj _ => (intOf vj).toNat + 1 - (intOf vi).toNat)
        case atStart => exact ⟨x + 1, y1, Sort.swp d1 x y, by omega, by omega, by omega, by go_num, rfl, SW5, (show Hid _ from rfl)⟩
        case round =>
          obtain ⟨i, j, d2, hi1, hi2, hj1, rfl, rfl, HSR, HPR⟩ := hrel
          clear w1 w2 w3
          go_upto_block 6 with fail
          go_cut [12] (fun s12 wc => ∃ x : Nat, s12 = .int .i64 x ∧ i ≤ x ∧ x ≤ j + 1 ∧ Hid (x = Sort.scanUp (fun x => ltF ks x d2[a]!) d2 j i) ∧ Hid (Sa w0 wc hb gk kb n ck ks g c m d2))
          case first =>
            go_wp2_with fail
            go_loopw [12] (fun vi wr => ∃ k : Nat, i ≤ k ∧ k ≤ j + 1 ∧ vi = .int .i64 k ∧ Hid (Sa w0 wr hb gk kb n ck ks g c m d2) ∧ Hid (Sort.scanUp (fun x => ltF ks x d2[a]!) d2 j k = Sort.scanUp (fun x => ltF ks x d2[a]!) d2 j i)) (fun vi _ => j + 1 - (intOf vi).toNat)
            case atStart => exact ⟨i, Nat.le_refl _, by omega, rfl, HSR, (show Hid _ from rfl)⟩
            case round =>
              obtain ⟨k, hk1, hk2, rfl, HSk, HUk⟩ := hrel
              by_cases hkj : k ≤ j
              · have hkj' : (k : Int) ≤ (j : Int) := by omega
                have hkd : decide (k ≤ j) = true := decide_eq_true hkj
                cases hv : ltF ks d2[k]! d2[a]! with
                | true =>
                  obtain ⟨iN8, hiN8⟩ : ∃ qq, qq = k := ⟨_, rfl⟩
                  obtain ⟨jN8, hjN8⟩ : ∃ qq, qq = a := ⟨_, rfl⟩
                  have ea8 : ((k : Int)).toNat = iN8 := by omega
                  have pa8 : (0 : Int) ≤ (k : Int) := by omega
                  have sa8 : (k : Int) < (m : Int) := by omega
                  have ra8 : IntKind.i64.wrap ((k : Int)) = (k : Int) := by rw [IntKind.wrap_i64] <;> omega
                  have eb8 : ((a : Int)).toNat = jN8 := by omega
                  have pb8 : (0 : Int) ≤ (a : Int) := by omega
                  have sb8 : (a : Int) < (m : Int) := by omega
                  have rb8 : IntKind.i64.wrap ((a : Int)) = (a : Int) := by rw [IntKind.wrap_i64] <;> omega
                  obtain ⟨x8, hx8⟩ : ∃ qq, qq = d2[k]! := ⟨_, rfl⟩
                  obtain ⟨y8, hy8⟩ : ∃ qq, qq = d2[a]! := ⟨_, rfl⟩
                  have q1 := HSk.out.cell (show k < m by omega)
                  rw [← hx8, ← hiN8] at q1
                  have q2 := HSk.out.cell (show a < m by omega)
                  rw [← hy8, ← hjN8] at q2
                  have q3 := fun p => HSk.out.cmp (HSk.out.at' (show k < m by omega)).2.2 (HSk.out.at' (show a < m by omega)).2.2 p
                  rw [← hx8, ← hy8] at q3
                  have hv1 : ordV ks x8 y8 < 0 := by rw [hx8, hy8]; exact of_decide_eq_true hv
                  generalize ordV ks x8 y8 = ov8 at hv1 q3
                  have hd1 : decide (ov8 < 0) = true := decide_eq_true hv1
                  clear hx8 hy8 hiN8 hjN8
                  go_wp2_with fail
                  refine wp_behind (by kernel_rfl) (by kernel_rfl) ?_
                  repeat (quiet_step (exact q3 _))
                  refine wpQuiet_nil ?_
                  rintro W2 ⟨⟨_, hbW2⟩, rfl⟩
                  clear q1 q2 q3 hv1 hd1 pa8 sa8 ra8 pb8 sb8 rb8 ea8 eb8
                  have SW2 := Lib.hid (HSk.out.below hbW2)
                  have HG := Lib.hid ((up_go (fun x => ltF ks x d2[a]!) d2 j k hkj hv).symm.trans HUk.out)
                  have e1 : IntKind.i64.wrap ((k : Int) + 1) = (k : Int) + 1 := by rw [IntKind.wrap_i64] <;> omega
                  clear hv
                  go_wp2
                  go_roundw
                  case rel => exact ⟨k + 1, by omega, by omega, by go_num, SW2, HG⟩
                  case measure => simp only [intOf]; omega
                | false =>
                  obtain ⟨iN9, hiN9⟩ : ∃ qq, qq = k := ⟨_, rfl⟩
                  obtain ⟨jN9, hjN9⟩ : ∃ qq, qq = a := ⟨_, rfl⟩
                  have ea9 : ((k : Int)).toNat = iN9 := by omega
                  have pa9 : (0 : Int) ≤ (k : Int) := by omega
                  have sa9 : (k : Int) < (m : Int) := by omega
                  have ra9 : IntKind.i64.wrap ((k : Int)) = (k : Int) := by rw [IntKind.wrap_i64] <;> omega
                  have eb9 : ((a : Int)).toNat = jN9 := by omega
                  have pb9 : (0 : Int) ≤ (a : Int) := by omega
                  have sb9 : (a : Int) < (m : Int) := by omega
                  have rb9 : IntKind.i64.wrap ((a : Int)) = (a : Int) := by rw [IntKind.wrap_i64] <;> omega
                  obtain ⟨x9, hx9⟩ : ∃ qq, qq = d2[k]! := ⟨_, rfl⟩
                  obtain ⟨y9, hy9⟩ : ∃ qq, qq = d2[a]! := ⟨_, rfl⟩
                  have q1 := HSk.out.cell (show k < m by omega)
                  rw [← hx9, ← hiN9] at q1
                  have q2 := HSk.out.cell (show a < m by omega)
                  rw [← hy9, ← hjN9] at q2
                  have q3 := fun p => HSk.out.cmp (HSk.out.at' (show k < m by omega)).2.2 (HSk.out.at' (show a < m by omega)).2.2 p
                  rw [← hx9, ← hy9] at q3
                  have hv1 : ¬ ordV ks x9 y9 < 0 := by rw [hx9, hy9]; exact of_decide_eq_false hv
                  generalize ordV ks x9 y9 = ov9 at hv1 q3
                  have hd1 : decide (ov9 < 0) = false := decide_eq_false hv1
                  clear hx9 hy9 hiN9 hjN9
                  go_wp2_with fail
                  refine wp_behind (by kernel_rfl) (by kernel_rfl) ?_
                  repeat (quiet_step (exact q3 _))
                  refine wpQuiet_nil ?_
                  rintro W2 ⟨⟨_, hbW2⟩, rfl⟩
                  clear q1 q2 q3 hv1 hd1 pa9 sa9 ra9 pb9 sb9 rb9 ea9 eb9
                  have SW2 := Lib.hid (HSk.out.below hbW2)
                  have HG := Lib.hid ((up_no (fun x => ltF ks x d2[a]!) d2 j k hv).symm.trans HUk.out)
                  clear hv
                  go_wp2_with fail
                  go_meet
                  case rel => exact ⟨k, rfl, by omega, by omega, HG, SW2⟩
              · have hkj' : ¬ (k : Int) ≤ (j : Int) := by omega
                have hkd : decide (k ≤ j) = false := decide_eq_false hkj
                have HG := Lib.hid ((up_end (fun x => ltF ks x d2[a]!) d2 j k hkj).symm.trans HUk.out)
                go_wp2_with fail
                go_big_region
                have SW2 := Lib.hid (HSk.out.below (below_dr (Below.refl wr.heap.size wr) 1))
                change Hid (Sa _ wr.drew _ _ _ _ _ _ _ _ _ _) at SW2
                generalize wr.drew = W2 at SW2 ⊢
                go_wp2_with fail
                go_meet
                case rel => exact ⟨k, rfl, by omega, by omega, HG, SW2⟩
          case rest =>
            obtain ⟨xi, rfl, hxi1, hxi2, HXI, SXI⟩ := hcut
            obtain ⟨WXI, rfl⟩ : ∃ q, q = wc := ⟨_, rfl⟩
            clear HSR
            go_upto_block 8 with fail
            go_cut [13] (fun s13 wc => ∃ y : Nat, s13 = .int .i64 y ∧ y ≤ j ∧ xi ≤ y + 1 ∧ Hid (y = Sort.scanDown (fun x => !ltF ks x d2[a]!) d2 xi j) ∧ Hid (Sa w0 wc hb gk kb n ck ks g c m d2))
            case first =>
              go_wp2_with fail
              go_loopw [13] (fun vi wr => ∃ k : Nat, k ≤ j ∧ xi ≤ k + 1 ∧ vi = .int .i64 k ∧ Hid (Sa w0 wr hb gk kb n ck ks g c m d2) ∧ Hid (Sort.scanDown (fun x => !ltF ks x d2[a]!) d2 xi k = Sort.scanDown (fun x => !ltF ks x d2[a]!) d2 xi j)) (fun vi _ => (intOf vi).toNat)
              case atStart => exact ⟨j, Nat.le_refl _, by omega, rfl, SXI, (show Hid _ from rfl)⟩
              case round =>
                obtain ⟨k, hk1, hk2, rfl, HSk, HUk⟩ := hrel
                by_cases hkj : xi ≤ k
                · have hkj' : (xi : Int) ≤ (k : Int) := by omega
                  have hkd : decide (xi ≤ k) = true := decide_eq_true hkj
                  obtain ⟨k1, hk3⟩ : ∃ q, k = q + 1 := ⟨k - 1, by omega⟩
                  cases hv : ltF ks d2[k]! d2[a]! with
                  | true =>
                    have HG := Lib.hid ((show Sort.scanDown (fun x => !ltF ks x d2[a]!) d2 xi k = k by rw [hk3] at hv ⊢; exact down_no _ _ _ _ (by simp only [hv]; rfl)).symm.trans HUk.out)
                    clear hk3
                    obtain ⟨iN10, hiN10⟩ : ∃ qq, qq = k := ⟨_, rfl⟩
                    obtain ⟨jN10, hjN10⟩ : ∃ qq, qq = a := ⟨_, rfl⟩
                    have ea10 : ((k : Int)).toNat = iN10 := by omega
                    have pa10 : (0 : Int) ≤ (k : Int) := by omega
                    have sa10 : (k : Int) < (m : Int) := by omega
                    have ra10 : IntKind.i64.wrap ((k : Int)) = (k : Int) := by rw [IntKind.wrap_i64] <;> omega
                    have eb10 : ((a : Int)).toNat = jN10 := by omega
                    have pb10 : (0 : Int) ≤ (a : Int) := by omega
                    have sb10 : (a : Int) < (m : Int) := by omega
                    have rb10 : IntKind.i64.wrap ((a : Int)) = (a : Int) := by rw [IntKind.wrap_i64] <;> omega
                    obtain ⟨x10, hx10⟩ : ∃ qq, qq = d2[k]! := ⟨_, rfl⟩
                    obtain ⟨y10, hy10⟩ : ∃ qq, qq = d2[a]! := ⟨_, rfl⟩
                    have q1 := HSk.out.cell (show k < m by omega)
                    rw [← hx10, ← hiN10] at q1
                    have q2 := HSk.out.cell (show a < m by omega)
                    rw [← hy10, ← hjN10] at q2
                    have q3 := fun p => HSk.out.cmp (HSk.out.at' (show k < m by omega)).2.2 (HSk.out.at' (show a < m by omega)).2.2 p
                    rw [← hx10, ← hy10] at q3
                    have hv1 : ordV ks x10 y10 < 0 := by rw [hx10, hy10]; exact of_decide_eq_true hv
                    generalize ordV ks x10 y10 = ov10 at hv1 q3
                    have hd1 : decide (ov10 < 0) = true := decide_eq_true hv1
                    clear hx10 hy10 hiN10 hjN10
                    go_wp2_with fail
                    refine wp_behind (by kernel_rfl) (by kernel_rfl) ?_
                    repeat (quiet_step (exact q3 _))
                    refine wpQuiet_nil ?_
                    rintro W2 ⟨⟨_, hbW2⟩, rfl⟩
                    clear q1 q2 q3 hv1 hd1 pa10 sa10 ra10 pb10 sb10 rb10 ea10 eb10
                    have SW2 := Lib.hid (HSk.out.below hbW2)
                    clear hv
                    go_wp2_with fail
                    go_meet
                    case rel => exact ⟨k, rfl, by omega, by omega, HG, SW2⟩
                  | false =>
                    have HG := Lib.hid ((show Sort.scanDown (fun x => !ltF ks x d2[a]!) d2 xi k = Sort.scanDown (fun x => !ltF ks x d2[a]!) d2 xi k1 by rw [hk3] at hv hkj ⊢; exact down_go _ _ _ _ hkj (by simp only [hv]; rfl)).symm.trans HUk.out)
                    have hk4 : k1 < k := by omega
                    have hk5 : (k : Int) - 1 = (k1 : Int) := by omega
                    have hk6 : xi ≤ k1 + 1 := by omega
                    have e1 : IntKind.i64.wrap (k1 : Int) = (k1 : Int) := by rw [IntKind.wrap_i64] <;> omega
                    clear hk3
                    obtain ⟨iN11, hiN11⟩ : ∃ qq, qq = k := ⟨_, rfl⟩
                    obtain ⟨jN11, hjN11⟩ : ∃ qq, qq = a := ⟨_, rfl⟩
                    have ea11 : ((k : Int)).toNat = iN11 := by omega
                    have pa11 : (0 : Int) ≤ (k : Int) := by omega
                    have sa11 : (k : Int) < (m : Int) := by omega
                    have ra11 : IntKind.i64.wrap ((k : Int)) = (k : Int) := by rw [IntKind.wrap_i64] <;> omega
                    have eb11 : ((a : Int)).toNat = jN11 := by omega
                    have pb11 : (0 : Int) ≤ (a : Int) := by omega
                    have sb11 : (a : Int) < (m : Int) := by omega
                    have rb11 : IntKind.i64.wrap ((a : Int)) = (a : Int) := by rw [IntKind.wrap_i64] <;> omega
                    obtain ⟨x11, hx11⟩ : ∃ qq, qq = d2[k]! := ⟨_, rfl⟩
                    obtain ⟨y11, hy11⟩ : ∃ qq, qq = d2[a]! := ⟨_, rfl⟩
                    have q1 := HSk.out.cell (show k < m by omega)
                    rw [← hx11, ← hiN11] at q1
                    have q2 := HSk.out.cell (show a < m by omega)
                    rw [← hy11, ← hjN11] at q2
                    have q3 := fun p => HSk.out.cmp (HSk.out.at' (show k < m by omega)).2.2 (HSk.out.at' (show a < m by omega)).2.2 p
                    rw [← hx11, ← hy11] at q3
                    have hv1 : ¬ ordV ks x11 y11 < 0 := by rw [hx11, hy11]; exact of_decide_eq_false hv
                    generalize ordV ks x11 y11 = ov11 at hv1 q3
                    have hd1 : decide (ov11 < 0) = false := decide_eq_false hv1
                    clear hx11 hy11 hiN11 hjN11
                    go_wp2_with fail
                    refine wp_behind (by kernel_rfl) (by kernel_rfl) ?_
                    repeat (quiet_step (exact q3 _))
                    refine wpQuiet_nil ?_
                    rintro W2 ⟨⟨_, hbW2⟩, rfl⟩
                    clear q1 q2 q3 hv1 hd1 pa11 sa11 ra11 pb11 sb11 rb11 ea11 eb11
                    have SW2 := Lib.hid (HSk.out.below hbW2)
                    clear hv
                    go_wp2
                    go_roundw
                    case rel => exact ⟨k1, by omega, hk6, rfl, SW2, HG⟩
                    case measure => simp only [intOf]; omega
                · have hkj' : ¬ (xi : Int) ≤ (k : Int) := by omega
                  have hkd : decide (xi ≤ k) = false := decide_eq_false hkj
                  have HG := Lib.hid ((down_end (fun x => !ltF ks x d2[a]!) d2 xi k hkj).symm.trans HUk.out)
                  go_wp2_with fail
                  go_big_region
                  have SW2 := Lib.hid (HSk.out.below (below_dr (Below.refl wr.heap.size wr) 1))
                  change Hid (Sa _ wr.drew _ _ _ _ _ _ _ _ _ _) at SW2
                  generalize wr.drew = W2 at SW2 ⊢
                  go_wp2_with fail
                  go_meet
                  case rel => exact ⟨k, rfl, by omega, by omega, HG, SW2⟩
            case rest =>
              obtain ⟨yj, rfl, hyj1, hyj2, HYJ, SYJ⟩ := hcut
              obtain ⟨WYJ, rfl⟩ : ∃ q, q = wc := ⟨_, rfl⟩
              clear SXI
              by_cases hij : yj < xi
              · have hij' : (yj : Int) < (xi : Int) := by omega
                have HP2 := Lib.hid ((loop_one (ltF ks) a d2 j i xi yj HXI.out HYJ.out hij).symm.trans HPR.out)
                obtain ⟨iN12, hiN12⟩ : ∃ qq, qq = yj := ⟨_, rfl⟩
                obtain ⟨jN12, hjN12⟩ : ∃ qq, qq = a := ⟨_, rfl⟩
                have ea12 : ((yj : Int)).toNat = iN12 := by omega
                have pa12 : (0 : Int) ≤ (yj : Int) := by omega
                have sa12 : (yj : Int) < (m : Int) := by omega
                have ra12 : IntKind.i64.wrap ((yj : Int)) = (yj : Int) := by rw [IntKind.wrap_i64] <;> omega
                have eb12 : ((a : Int)).toNat = jN12 := by omega
                have pb12 : (0 : Int) ≤ (a : Int) := by omega
                have sb12 : (a : Int) < (m : Int) := by omega
                have rb12 : IntKind.i64.wrap ((a : Int)) = (a : Int) := by rw [IntKind.wrap_i64] <;> omega
                have SW5 := Lib.hid (SYJ.out.swap (show yj < m by omega) (show a < m by omega))
                obtain ⟨x12, hx12⟩ : ∃ qq, qq = d2[yj]! := ⟨_, rfl⟩
                obtain ⟨y12, hy12⟩ : ∃ qq, qq = d2[a]! := ⟨_, rfl⟩
                have c1 : WYJ.cell? ⟨g, iN12, none⟩ = some (.int .i64 (x12 : Nat)) := by rw [hiN12, hx12]; exact (SYJ.out.at' (show yj < m by omega)).1
                have f1 : WYJ.frozen? ⟨g, iN12, none⟩ = false := by rw [hiN12]; exact (SYJ.out.at' (show yj < m by omega)).2.1
                have c2 : WYJ.cell? ⟨g, jN12, none⟩ = some (.int .i64 (y12 : Nat)) := by rw [hjN12, hy12]; exact (SYJ.out.at' (show a < m by omega)).1
                have f2 : WYJ.frozen? ⟨g, jN12, none⟩ = false := by rw [hjN12]; exact (SYJ.out.at' (show a < m by omega)).2.1
                obtain ⟨u3, c3⟩ : ∃ u, (WYJ.setCell ⟨g, iN12, none⟩ (.int .i64 (y12 : Nat))).cell? ⟨g, jN12, none⟩ = some u := by rw [hiN12, hjN12, hy12]; exact SYJ.out.two (show yj < m by omega) (show a < m by omega)
                have E12 : ((WYJ.setCell ⟨g, yj, none⟩ (.int .i64 (d2[a]! : Nat))).setCell ⟨g, a, none⟩ (.int .i64 (d2[yj]! : Nat))).drew = ((WYJ.setCell ⟨g, iN12, none⟩ (.int .i64 y12)).setCell ⟨g, jN12, none⟩ (.int .i64 x12)).drew := by rw [hx12, hy12, hiN12, hjN12]
                rw [E12] at SW5
                clear E12 hx12 hy12 hiN12 hjN12
                go_wp2_with fail
                go_big_region
                clear c1 c2 c3 f1 f2 pa12 sa12 ra12 pb12 sb12 rb12 ea12 eb12
                generalize ((WYJ.setCell ⟨g, iN12, none⟩ (.int .i64 y12)).setCell ⟨g, jN12, none⟩ (.int .i64 x12)).drew = W5 at SW5 ⊢
                go_wp2
                go_ret2
                exact ⟨by rw [HP.out, ← HP2.out]; rfl, by rw [HP.out, ← HP2.out]; exact SW5.out⟩
              · have hij' : ¬ (yj : Int) < (xi : Int) := by omega
                have hlt2 := part_lt (ltF ks) a d2 j i xi yj (by omega) HXI.out HYJ.out (by omega) (by omega) hij
                have HP2 := Lib.hid ((loop_two (ltF ks) a d2 j i xi yj HXI.out HYJ.out hij).symm.trans HPR.out)
                have v1 : IntKind.i64.wrap ((xi : Int) + 1) = (xi : Int) + 1 := by rw [IntKind.wrap_i64] <;> omega
                have v2 : IntKind.i64.wrap ((yj : Int) - 1) = (yj : Int) - 1 := by rw [IntKind.wrap_i64] <;> omega
                obtain ⟨iN13, hiN13⟩ : ∃ qq, qq = xi := ⟨_, rfl⟩
                obtain ⟨jN13, hjN13⟩ : ∃ qq, qq = yj := ⟨_, rfl⟩
                have ea13 : ((xi : Int)).toNat = iN13 := by omega
                have pa13 : (0 : Int) ≤ (xi : Int) := by omega
                have sa13 : (xi : Int) < (m : Int) := by omega
                have ra13 : IntKind.i64.wrap ((xi : Int)) = (xi : Int) := by rw [IntKind.wrap_i64] <;> omega
                have eb13 : ((yj : Int)).toNat = jN13 := by omega
                have pb13 : (0 : Int) ≤ (yj : Int) := by omega
                have sb13 : (yj : Int) < (m : Int) := by omega
                have rb13 : IntKind.i64.wrap ((yj : Int)) = (yj : Int) := by rw [IntKind.wrap_i64] <;> omega
                have SW5 := Lib.hid (SYJ.out.swap (show xi < m by omega) (show yj < m by omega))
                obtain ⟨x13, hx13⟩ : ∃ qq, qq = d2[xi]! := ⟨_, rfl⟩
                obtain ⟨y13, hy13⟩ : ∃ qq, qq = d2[yj]! := ⟨_, rfl⟩
                have c1 : WYJ.cell? ⟨g, iN13, none⟩ = some (.int .i64 (x13 : Nat)) := by rw [hiN13, hx13]; exact (SYJ.out.at' (show xi < m by omega)).1
                have f1 : WYJ.frozen? ⟨g, iN13, none⟩ = false := by rw [hiN13]; exact (SYJ.out.at' (show xi < m by omega)).2.1
                have c2 : WYJ.cell? ⟨g, jN13, none⟩ = some (.int .i64 (y13 : Nat)) := by rw [hjN13, hy13]; exact (SYJ.out.at' (show yj < m by omega)).1
                have f2 : WYJ.frozen? ⟨g, jN13, none⟩ = false := by rw [hjN13]; exact (SYJ.out.at' (show yj < m by omega)).2.1
                obtain ⟨u3, c3⟩ : ∃ u, (WYJ.setCell ⟨g, iN13, none⟩ (.int .i64 (y13 : Nat))).cell? ⟨g, jN13, none⟩ = some u := by rw [hiN13, hjN13, hy13]; exact SYJ.out.two (show xi < m by omega) (show yj < m by omega)
                have E13 : ((WYJ.setCell ⟨g, xi, none⟩ (.int .i64 (d2[yj]! : Nat))).setCell ⟨g, yj, none⟩ (.int .i64 (d2[xi]! : Nat))).drew = ((WYJ.setCell ⟨g, iN13, none⟩ (.int .i64 y13)).setCell ⟨g, jN13, none⟩ (.int .i64 x13)).drew := by rw [hx13, hy13, hiN13, hjN13]
                rw [E13] at SW5
                clear E13 hx13 hy13 hiN13 hjN13
                go_wp2_with fail
                go_big_region
                clear c1 c2 c3 f1 f2 pa13 sa13 ra13 pb13 sb13 rb13 ea13 eb13
                generalize ((WYJ.setCell ⟨g, iN13, none⟩ (.int .i64 y13)).setCell ⟨g, jN13, none⟩ (.int .i64 x13)).drew = W5 at SW5 ⊢
                go_wp2
                go_roundw
                case rel => exact ⟨xi + 1, yj - 1, Sort.swp d2 xi yj, by omega, by omega, by omega, by go_num, by congr 1; omega, SW5, HP2⟩
                case measure => simp only [intOf]; omega
end Go.Proofs.Ytopikpjagjnbhaa
