/- The sort: the partition by what is the same. -/
import Derived.Test.YtopikpjagjnbhaaSortPart
namespace Go.Proofs.Ytopikpjagjnbhaa
open Go.RowKit
variable {w0 W : World} {hb gk kb n ck g c m : Nat} {ks : List Int} {d : Array Nat}
theorem eqp_lt (lt : Nat → Nat → Bool) (a : Nat) (d : Array Nat) (j i x y : Nat) (hi : 0 < i) (hx : x = Sort.scanUp (fun x => !lt d[a]! x) d j i) (hy : y = Sort.scanDown (fun x => lt d[a]! x) d x j) (h1 : i ≤ x) (h2 : y ≤ j) (h : ¬ y < x) : x < y := by
  have s1 := (Sort.scanUp_spec (fun x => !lt d[a]! x) d j _ i rfl).2.2.2
  have s2 := (Sort.scanDown_spec (fun x => lt d[a]! x) d x j).2.2.2
  rw [← hx] at s1
  rw [← hy] at s2
  rcases Nat.lt_or_ge x y with h3 | h3
  · exact h3
  · have e : x = y := by omega
    subst e
    have a1 : (!lt d[a]! d[x]!) = false := s1 (by omega)
    have a2 : lt d[a]! d[x]! = false := s2 (Nat.le_refl _) (by omega)
    rw [a2] at a1
    exact absurd a1 (by simp)
theorem eqp_one (lt : Nat → Nat → Bool) (a : Nat) (d : Array Nat) (j i x y : Nat) (hx : x = Sort.scanUp (fun x => !lt d[a]! x) d j i) (hy : y = Sort.scanDown (fun x => lt d[a]! x) d x j) (h : y < x) : Sort.partEqLoop lt a i j d = (x, d) := by
  rw [Sort.partEqLoop_eq, ← hx, ← hy, if_pos h]
theorem eqp_two (lt : Nat → Nat → Bool) (a : Nat) (d : Array Nat) (j i x y : Nat) (hx : x = Sort.scanUp (fun x => !lt d[a]! x) d j i) (hy : y = Sort.scanDown (fun x => lt d[a]! x) d x j) (h : ¬ y < x) : Sort.partEqLoop lt a i j d = Sort.partEqLoop lt a (x + 1) (y - 1) (Sort.swp d x y) := by
  rw [Sort.partEqLoop_eq, ← hx, ← hy, if_neg h]
set_option maxRecDepth 100000 in
set_option maxHeartbeats 8000000 in
/-- The partition by what is the same. -/
theorem sequal (S : Sa w0 W hb gk kb n ck ks g c m d) (a b p : Nat) (hap : a ≤ p) (hpb : p < b) (hbm : b ≤ m) (hm : m ≤ 4096) :
    Calls Try.prog 70 #[.slice (some ⟨g, 0, none⟩) m c, .int .i64 a, .int .i64 b, .int .i64 p, ordF hb] W fun e W' => e = .returned (.int .i64 (Sort.partitionEqual (ltF ks) d a b p).1) ∧ Sa w0 W' hb gk kb n ck ks g c m (Sort.partitionEqual (ltF ks) d a b p).2 := by
  have HS := Lib.hid S
  clear S
  obtain ⟨i0, hi0⟩ : ∃ q, q = a + 1 := ⟨_, rfl⟩
  obtain ⟨j0, hj0⟩ : ∃ q, q = b - 1 := ⟨_, rfl⟩
  have z1 : (a : Int) + 1 = (i0 : Int) := by omega
  have z2 : (b : Int) - 1 = (j0 : Int) := by omega
  have z3 : IntKind.i64.wrap (i0 : Int) = (i0 : Int) := by rw [IntKind.wrap_i64] <;> omega
  have z4 : IntKind.i64.wrap (j0 : Int) = (j0 : Int) := by rw [IntKind.wrap_i64] <;> omega
  have z5 : i0 ≤ j0 + 1 ∧ j0 < m ∧ a < i0 ∧ a < m := by omega
  have HP := Lib.hid (show Sort.partitionEqual (ltF ks) d a b p = Sort.partEqLoop (ltF ks) a i0 j0 (Sort.swp d a p) by rw [hi0, hj0]; rfl)
  clear hi0 hj0
  go_enter Try.func70, Try.ntmps70
  obtain ⟨iN1, hiN1⟩ : ∃ qq, qq = a := ⟨_, rfl⟩
  obtain ⟨jN1, hjN1⟩ : ∃ qq, qq = p := ⟨_, rfl⟩
  have ea1 : ((a : Int)).toNat = iN1 := by omega
  have pa1 : (0 : Int) ≤ (a : Int) := by omega
  have sa1 : (a : Int) < (m : Int) := by omega
  have ra1 : IntKind.i64.wrap ((a : Int)) = (a : Int) := by rw [IntKind.wrap_i64] <;> omega
  have eb1 : ((p : Int)).toNat = jN1 := by omega
  have pb1 : (0 : Int) ≤ (p : Int) := by omega
  have sb1 : (p : Int) < (m : Int) := by omega
  have rb1 : IntKind.i64.wrap ((p : Int)) = (p : Int) := by rw [IntKind.wrap_i64] <;> omega
  have SW1 := Lib.hid (HS.out.swap (show a < m by omega) (show p < m by omega))
  obtain ⟨x1, hx1⟩ : ∃ qq, qq = d[a]! := ⟨_, rfl⟩
  obtain ⟨y1, hy1⟩ : ∃ qq, qq = d[p]! := ⟨_, rfl⟩
  have c1 : W.cell? ⟨g, iN1, none⟩ = some (.int .i64 (x1 : Nat)) := by rw [hiN1, hx1]; exact (HS.out.at' (show a < m by omega)).1
  have f1 : W.frozen? ⟨g, iN1, none⟩ = false := by rw [hiN1]; exact (HS.out.at' (show a < m by omega)).2.1
  have c2 : W.cell? ⟨g, jN1, none⟩ = some (.int .i64 (y1 : Nat)) := by rw [hjN1, hy1]; exact (HS.out.at' (show p < m by omega)).1
  have f2 : W.frozen? ⟨g, jN1, none⟩ = false := by rw [hjN1]; exact (HS.out.at' (show p < m by omega)).2.1
  obtain ⟨u3, c3⟩ : ∃ u, (W.setCell ⟨g, iN1, none⟩ (.int .i64 (y1 : Nat))).cell? ⟨g, jN1, none⟩ = some u := by rw [hiN1, hjN1, hy1]; exact HS.out.two (show a < m by omega) (show p < m by omega)
  have E1 : ((W.setCell ⟨g, a, none⟩ (.int .i64 (d[p]! : Nat))).setCell ⟨g, p, none⟩ (.int .i64 (d[a]! : Nat))).drew = ((W.setCell ⟨g, iN1, none⟩ (.int .i64 y1)).setCell ⟨g, jN1, none⟩ (.int .i64 x1)).drew := by rw [hx1, hy1, hiN1, hjN1]
  rw [E1] at SW1
  clear E1 hx1 hy1 hiN1 hjN1
  go_wp2_with fail
  go_big_region
  clear c1 c2 c3 f1 f2 pa1 sa1 ra1 pb1 sb1 rb1 ea1 eb1
  generalize ((W.setCell ⟨g, iN1, none⟩ (.int .i64 y1)).setCell ⟨g, jN1, none⟩ (.int .i64 x1)).drew = W1 at SW1 ⊢
  go_wp2_with fail
  clear HS
  go_loopw [11, 12] (fun vi vj wr => ∃ (i j : Nat) (d2 : Array Nat), a < i ∧ i ≤ j + 1 ∧ j < m ∧ vi = .int .i64 i ∧ vj = .int .i64 j ∧ Hid (Sa w0 wr hb gk kb n ck ks g c m d2) ∧ Hid (Sort.partEqLoop (ltF ks) a i j d2 = Sort.partitionEqual (ltF ks) d a b p)) (fun vi vj _ => (intOf vj).toNat + 1 - (intOf vi).toNat)
  case atStart => exact ⟨i0, j0, Sort.swp d a p, by omega, by omega, by omega, rfl, rfl, SW1, (show Hid _ from HP.out.symm)⟩
  case round =>
    obtain ⟨i, j, d2, hi1, hi2, hj1, rfl, rfl, HSR, HPR⟩ := hrel
    clear z1 z2 z3 z4
    go_upto_block 2 with fail
    go_cut [11] (fun s12 wc => ∃ x : Nat, s12 = .int .i64 x ∧ i ≤ x ∧ x ≤ j + 1 ∧ Hid (x = Sort.scanUp (fun x => !ltF ks d2[a]! x) d2 j i) ∧ Hid (Sa w0 wc hb gk kb n ck ks g c m d2))
    case first =>
      go_wp2_with fail
      go_loopw [11] (fun vi wr => ∃ k : Nat, i ≤ k ∧ k ≤ j + 1 ∧ vi = .int .i64 k ∧ Hid (Sa w0 wr hb gk kb n ck ks g c m d2) ∧ Hid (Sort.scanUp (fun x => !ltF ks d2[a]! x) d2 j k = Sort.scanUp (fun x => !ltF ks d2[a]! x) d2 j i)) (fun vi _ => j + 1 - (intOf vi).toNat)
      case atStart => exact ⟨i, Nat.le_refl _, by omega, rfl, HSR, (show Hid _ from rfl)⟩
      case round =>
        obtain ⟨k, hk1, hk2, rfl, HSk, HUk⟩ := hrel
        by_cases hkj : k ≤ j
        · have hkj' : (k : Int) ≤ (j : Int) := by omega
          have hkd : decide (k ≤ j) = true := decide_eq_true hkj
          cases hv : ltF ks d2[a]! d2[k]! with
          | false =>
            obtain ⟨iN2, hiN2⟩ : ∃ qq, qq = a := ⟨_, rfl⟩
            obtain ⟨jN2, hjN2⟩ : ∃ qq, qq = k := ⟨_, rfl⟩
            have ea2 : ((a : Int)).toNat = iN2 := by omega
            have pa2 : (0 : Int) ≤ (a : Int) := by omega
            have sa2 : (a : Int) < (m : Int) := by omega
            have ra2 : IntKind.i64.wrap ((a : Int)) = (a : Int) := by rw [IntKind.wrap_i64] <;> omega
            have eb2 : ((k : Int)).toNat = jN2 := by omega
            have pb2 : (0 : Int) ≤ (k : Int) := by omega
            have sb2 : (k : Int) < (m : Int) := by omega
            have rb2 : IntKind.i64.wrap ((k : Int)) = (k : Int) := by rw [IntKind.wrap_i64] <;> omega
            obtain ⟨x2, hx2⟩ : ∃ qq, qq = d2[a]! := ⟨_, rfl⟩
            obtain ⟨y2, hy2⟩ : ∃ qq, qq = d2[k]! := ⟨_, rfl⟩
            have q1 := HSk.out.cell (show a < m by omega)
            rw [← hx2, ← hiN2] at q1
            have q2 := HSk.out.cell (show k < m by omega)
            rw [← hy2, ← hjN2] at q2
            have q3 := fun p => HSk.out.cmp (HSk.out.at' (show a < m by omega)).2.2 (HSk.out.at' (show k < m by omega)).2.2 p
            rw [← hx2, ← hy2] at q3
            have hv1 : ¬ ordV ks x2 y2 < 0 := by rw [hx2, hy2]; exact of_decide_eq_false hv
            generalize ordV ks x2 y2 = ov2 at hv1 q3
            have hd1 : decide (ov2 < 0) = false := decide_eq_false hv1
            clear hx2 hy2 hiN2 hjN2
            go_wp2_with fail
            refine wp_behind (by kernel_rfl) (by kernel_rfl) ?_
            repeat (quiet_step (exact q3 _))
            refine wpQuiet_nil ?_
            rintro W2 ⟨⟨_, hbW2⟩, rfl⟩
            clear q1 q2 q3 hv1 hd1 pa2 sa2 ra2 pb2 sb2 rb2 ea2 eb2
            have SW2 := Lib.hid (HSk.out.below hbW2)
            have HG := Lib.hid ((up_go (fun x => !ltF ks d2[a]! x) d2 j k hkj (by simp only [hv]; rfl)).symm.trans HUk.out)
            have e1 : IntKind.i64.wrap ((k : Int) + 1) = (k : Int) + 1 := by rw [IntKind.wrap_i64] <;> omega
            clear hv
            go_wp2
            go_roundw
            case rel => exact ⟨k + 1, by omega, by omega, by go_num, SW2, HG⟩
            case measure => simp only [intOf]; omega
          | true =>
            obtain ⟨iN3, hiN3⟩ : ∃ qq, qq = a := ⟨_, rfl⟩
            obtain ⟨jN3, hjN3⟩ : ∃ qq, qq = k := ⟨_, rfl⟩
            have ea3 : ((a : Int)).toNat = iN3 := by omega
            have pa3 : (0 : Int) ≤ (a : Int) := by omega
            have sa3 : (a : Int) < (m : Int) := by omega
            have ra3 : IntKind.i64.wrap ((a : Int)) = (a : Int) := by rw [IntKind.wrap_i64] <;> omega
            have eb3 : ((k : Int)).toNat = jN3 := by omega
            have pb3 : (0 : Int) ≤ (k : Int) := by omega
            have sb3 : (k : Int) < (m : Int) := by omega
            have rb3 : IntKind.i64.wrap ((k : Int)) = (k : Int) := by rw [IntKind.wrap_i64] <;> omega
            obtain ⟨x3, hx3⟩ : ∃ qq, qq = d2[a]! := ⟨_, rfl⟩
            obtain ⟨y3, hy3⟩ : ∃ qq, qq = d2[k]! := ⟨_, rfl⟩
            have q1 := HSk.out.cell (show a < m by omega)
            rw [← hx3, ← hiN3] at q1
            have q2 := HSk.out.cell (show k < m by omega)
            rw [← hy3, ← hjN3] at q2
            have q3 := fun p => HSk.out.cmp (HSk.out.at' (show a < m by omega)).2.2 (HSk.out.at' (show k < m by omega)).2.2 p
            rw [← hx3, ← hy3] at q3
            have hv1 : ordV ks x3 y3 < 0 := by rw [hx3, hy3]; exact of_decide_eq_true hv
            generalize ordV ks x3 y3 = ov3 at hv1 q3
            have hd1 : decide (ov3 < 0) = true := decide_eq_true hv1
            clear hx3 hy3 hiN3 hjN3
            go_wp2_with fail
            refine wp_behind (by kernel_rfl) (by kernel_rfl) ?_
            repeat (quiet_step (exact q3 _))
            refine wpQuiet_nil ?_
            rintro W2 ⟨⟨_, hbW2⟩, rfl⟩
            clear q1 q2 q3 hv1 hd1 pa3 sa3 ra3 pb3 sb3 rb3 ea3 eb3
            have SW2 := Lib.hid (HSk.out.below hbW2)
            have HG := Lib.hid ((up_no (fun x => !ltF ks d2[a]! x) d2 j k (by simp only [hv]; rfl)).symm.trans HUk.out)
            clear hv
            go_wp2_with fail
            go_meet
            case rel => exact ⟨k, rfl, by omega, by omega, HG, SW2⟩
        · have hkj' : ¬ (k : Int) ≤ (j : Int) := by omega
          have hkd : decide (k ≤ j) = false := decide_eq_false hkj
          have HG := Lib.hid ((up_end (fun x => !ltF ks d2[a]! x) d2 j k hkj).symm.trans HUk.out)
          go_wp2_with fail
          go_big_region
          have SW2 := Lib.hid (HSk.out.below (below_dr (Below.refl wr.heap.size wr) 1))
          change Hid (Sa _ wr.drew _ _ _ _ _ _ _ _ _ _) at SW2
          generalize wr.drew = W2 at SW2 ⊢
          go_wp2_with fail
          go_meet
          case rel => exact ⟨k, rfl, by omega, by omega, HG, SW2⟩
    case rest =>
      obtain ⟨xi, rfl, hxi1, hxi2, HXI, SXI⟩ := hcut
      obtain ⟨WXI, rfl⟩ : ∃ q, q = wc := ⟨_, rfl⟩
      clear HSR
      go_upto_block 4 with fail
      go_cut [12] (fun s13 wc => ∃ y : Nat, s13 = .int .i64 y ∧ y ≤ j ∧ xi ≤ y + 1 ∧ Hid (y = Sort.scanDown (fun x => ltF ks d2[a]! x) d2 xi j) ∧ Hid (Sa w0 wc hb gk kb n ck ks g c m d2))
      case first =>
        go_wp2_with fail
        go_loopw [12] (fun vi wr => ∃ k : Nat, k ≤ j ∧ xi ≤ k + 1 ∧ vi = .int .i64 k ∧ Hid (Sa w0 wr hb gk kb n ck ks g c m d2) ∧ Hid (Sort.scanDown (fun x => ltF ks d2[a]! x) d2 xi k = Sort.scanDown (fun x => ltF ks d2[a]! x) d2 xi j)) (fun vi _ => (intOf vi).toNat)
        case atStart => exact ⟨j, Nat.le_refl _, by omega, rfl, SXI, (show Hid _ from rfl)⟩
        case round =>
          obtain ⟨k, hk1, hk2, rfl, HSk, HUk⟩ := hrel
          by_cases hkj : xi ≤ k
          · have hkj' : (xi : Int) ≤ (k : Int) := by omega
            have hkd : decide (xi ≤ k) = true := decide_eq_true hkj
            obtain ⟨k1, hk3⟩ : ∃ q, k = q + 1 := ⟨k - 1, by omega⟩
            cases hv : ltF ks d2[a]! d2[k]! with
            | false =>
              have HG := Lib.hid ((show Sort.scanDown (fun x => ltF ks d2[a]! x) d2 xi k = k by rw [hk3] at hv ⊢; exact down_no _ _ _ _ hv).symm.trans HUk.out)
              clear hk3
              obtain ⟨iN4, hiN4⟩ : ∃ qq, qq = a := ⟨_, rfl⟩
              obtain ⟨jN4, hjN4⟩ : ∃ qq, qq = k := ⟨_, rfl⟩
              have ea4 : ((a : Int)).toNat = iN4 := by omega
              have pa4 : (0 : Int) ≤ (a : Int) := by omega
              have sa4 : (a : Int) < (m : Int) := by omega
              have ra4 : IntKind.i64.wrap ((a : Int)) = (a : Int) := by rw [IntKind.wrap_i64] <;> omega
              have eb4 : ((k : Int)).toNat = jN4 := by omega
              have pb4 : (0 : Int) ≤ (k : Int) := by omega
              have sb4 : (k : Int) < (m : Int) := by omega
              have rb4 : IntKind.i64.wrap ((k : Int)) = (k : Int) := by rw [IntKind.wrap_i64] <;> omega
              obtain ⟨x4, hx4⟩ : ∃ qq, qq = d2[a]! := ⟨_, rfl⟩
              obtain ⟨y4, hy4⟩ : ∃ qq, qq = d2[k]! := ⟨_, rfl⟩
              have q1 := HSk.out.cell (show a < m by omega)
              rw [← hx4, ← hiN4] at q1
              have q2 := HSk.out.cell (show k < m by omega)
              rw [← hy4, ← hjN4] at q2
              have q3 := fun p => HSk.out.cmp (HSk.out.at' (show a < m by omega)).2.2 (HSk.out.at' (show k < m by omega)).2.2 p
              rw [← hx4, ← hy4] at q3
              have hv1 : ¬ ordV ks x4 y4 < 0 := by rw [hx4, hy4]; exact of_decide_eq_false hv
              generalize ordV ks x4 y4 = ov4 at hv1 q3
              have hd1 : decide (ov4 < 0) = false := decide_eq_false hv1
              clear hx4 hy4 hiN4 hjN4
              go_wp2_with fail
              refine wp_behind (by kernel_rfl) (by kernel_rfl) ?_
              repeat (quiet_step (exact q3 _))
              refine wpQuiet_nil ?_
              rintro W2 ⟨⟨_, hbW2⟩, rfl⟩
              clear q1 q2 q3 hv1 hd1 pa4 sa4 ra4 pb4 sb4 rb4 ea4 eb4
              have SW2 := Lib.hid (HSk.out.below hbW2)
              clear hv
              go_wp2_with fail
              go_meet
              case rel => exact ⟨k, rfl, by omega, by omega, HG, SW2⟩
            | true =>
              have HG := Lib.hid ((show Sort.scanDown (fun x => ltF ks d2[a]! x) d2 xi k = Sort.scanDown (fun x => ltF ks d2[a]! x) d2 xi k1 by rw [hk3] at hv hkj ⊢; exact down_go _ _ _ _ hkj hv).symm.trans HUk.out)
              have hk4 : k1 < k := by omega
              have hk5 : (k : Int) - 1 = (k1 : Int) := by omega
              have hk6 : xi ≤ k1 + 1 := by omega
              have e1 : IntKind.i64.wrap (k1 : Int) = (k1 : Int) := by rw [IntKind.wrap_i64] <;> omega
              clear hk3
              obtain ⟨iN5, hiN5⟩ : ∃ qq, qq = a := ⟨_, rfl⟩
              obtain ⟨jN5, hjN5⟩ : ∃ qq, qq = k := ⟨_, rfl⟩
              have ea5 : ((a : Int)).toNat = iN5 := by omega
              have pa5 : (0 : Int) ≤ (a : Int) := by omega
              have sa5 : (a : Int) < (m : Int) := by omega
              have ra5 : IntKind.i64.wrap ((a : Int)) = (a : Int) := by rw [IntKind.wrap_i64] <;> omega
              have eb5 : ((k : Int)).toNat = jN5 := by omega
              have pb5 : (0 : Int) ≤ (k : Int) := by omega
              have sb5 : (k : Int) < (m : Int) := by omega
              have rb5 : IntKind.i64.wrap ((k : Int)) = (k : Int) := by rw [IntKind.wrap_i64] <;> omega
              obtain ⟨x5, hx5⟩ : ∃ qq, qq = d2[a]! := ⟨_, rfl⟩
              obtain ⟨y5, hy5⟩ : ∃ qq, qq = d2[k]! := ⟨_, rfl⟩
              have q1 := HSk.out.cell (show a < m by omega)
              rw [← hx5, ← hiN5] at q1
              have q2 := HSk.out.cell (show k < m by omega)
              rw [← hy5, ← hjN5] at q2
              have q3 := fun p => HSk.out.cmp (HSk.out.at' (show a < m by omega)).2.2 (HSk.out.at' (show k < m by omega)).2.2 p
              rw [← hx5, ← hy5] at q3
              have hv1 : ordV ks x5 y5 < 0 := by rw [hx5, hy5]; exact of_decide_eq_true hv
              generalize ordV ks x5 y5 = ov5 at hv1 q3
              have hd1 : decide (ov5 < 0) = true := decide_eq_true hv1
              clear hx5 hy5 hiN5 hjN5
              go_wp2_with fail
              refine wp_behind (by kernel_rfl) (by kernel_rfl) ?_
              repeat (quiet_step (exact q3 _))
              refine wpQuiet_nil ?_
              rintro W2 ⟨⟨_, hbW2⟩, rfl⟩
              clear q1 q2 q3 hv1 hd1 pa5 sa5 ra5 pb5 sb5 rb5 ea5 eb5
              have SW2 := Lib.hid (HSk.out.below hbW2)
              clear hv
              go_wp2
              go_roundw
              case rel => exact ⟨k1, by omega, hk6, rfl, SW2, HG⟩
              case measure => simp only [intOf]; omega
          · have hkj' : ¬ (xi : Int) ≤ (k : Int) := by omega
            have hkd : decide (xi ≤ k) = false := decide_eq_false hkj
            have HG := Lib.hid ((down_end (fun x => ltF ks d2[a]! x) d2 xi k hkj).symm.trans HUk.out)
            go_wp2_with fail
            go_big_region
            have SW2 := Lib.hid (HSk.out.below (below_dr (Below.refl wr.heap.size wr) 1))
            change Hid (Sa _ wr.drew _ _ _ _ _ _ _ _ _ _) at SW2
            generalize wr.drew = W2 at SW2 ⊢
            go_wp2_with fail
            go_meet
            case rel => exact ⟨k, rfl, by omega, by omega, HG, SW2⟩
      case rest =>
        obtain ⟨yj, rfl, hyj1, hyj2, HYJ, SYJ⟩ := hcut
        obtain ⟨WYJ, rfl⟩ : ∃ q, q = wc := ⟨_, rfl⟩
        clear SXI
        by_cases hij : yj < xi
        · have hij' : (yj : Int) < (xi : Int) := by omega
          have HP2 := Lib.hid ((eqp_one (ltF ks) a d2 j i xi yj HXI.out HYJ.out hij).symm.trans HPR.out)
          go_wp2
          go_ret
          exact ⟨by rw [← HP2.out]; rfl, by rw [← HP2.out]; exact SYJ.out⟩
        · have hij' : ¬ (yj : Int) < (xi : Int) := by omega
          have hlt2 := eqp_lt (ltF ks) a d2 j i xi yj (by omega) HXI.out HYJ.out (by omega) (by omega) hij
          have HP2 := Lib.hid ((eqp_two (ltF ks) a d2 j i xi yj HXI.out HYJ.out hij).symm.trans HPR.out)
          have v1 : IntKind.i64.wrap ((xi : Int) + 1) = (xi : Int) + 1 := by rw [IntKind.wrap_i64] <;> omega
          have v2 : IntKind.i64.wrap ((yj : Int) - 1) = (yj : Int) - 1 := by rw [IntKind.wrap_i64] <;> omega
          obtain ⟨iN6, hiN6⟩ : ∃ qq, qq = xi := ⟨_, rfl⟩
          obtain ⟨jN6, hjN6⟩ : ∃ qq, qq = yj := ⟨_, rfl⟩
          have ea6 : ((xi : Int)).toNat = iN6 := by omega
          have pa6 : (0 : Int) ≤ (xi : Int) := by omega
          have sa6 : (xi : Int) < (m : Int) := by omega
          have ra6 : IntKind.i64.wrap ((xi : Int)) = (xi : Int) := by rw [IntKind.wrap_i64] <;> omega
          have eb6 : ((yj : Int)).toNat = jN6 := by omega
          have pb6 : (0 : Int) ≤ (yj : Int) := by omega
          have sb6 : (yj : Int) < (m : Int) := by omega
          have rb6 : IntKind.i64.wrap ((yj : Int)) = (yj : Int) := by rw [IntKind.wrap_i64] <;> omega
          have SW5 := Lib.hid (SYJ.out.swap (show xi < m by omega) (show yj < m by omega))
          obtain ⟨x6, hx6⟩ : ∃ qq, qq = d2[xi]! := ⟨_, rfl⟩
          obtain ⟨y6, hy6⟩ : ∃ qq, qq = d2[yj]! := ⟨_, rfl⟩
          have c1 : WYJ.cell? ⟨g, iN6, none⟩ = some (.int .i64 (x6 : Nat)) := by rw [hiN6, hx6]; exact (SYJ.out.at' (show xi < m by omega)).1
          have f1 : WYJ.frozen? ⟨g, iN6, none⟩ = false := by rw [hiN6]; exact (SYJ.out.at' (show xi < m by omega)).2.1
          have c2 : WYJ.cell? ⟨g, jN6, none⟩ = some (.int .i64 (y6 : Nat)) := by rw [hjN6, hy6]; exact (SYJ.out.at' (show yj < m by omega)).1
          have f2 : WYJ.frozen? ⟨g, jN6, none⟩ = false := by rw [hjN6]; exact (SYJ.out.at' (show yj < m by omega)).2.1
          obtain ⟨u3, c3⟩ : ∃ u, (WYJ.setCell ⟨g, iN6, none⟩ (.int .i64 (y6 : Nat))).cell? ⟨g, jN6, none⟩ = some u := by rw [hiN6, hjN6, hy6]; exact SYJ.out.two (show xi < m by omega) (show yj < m by omega)
          have E6 : ((WYJ.setCell ⟨g, xi, none⟩ (.int .i64 (d2[yj]! : Nat))).setCell ⟨g, yj, none⟩ (.int .i64 (d2[xi]! : Nat))).drew = ((WYJ.setCell ⟨g, iN6, none⟩ (.int .i64 y6)).setCell ⟨g, jN6, none⟩ (.int .i64 x6)).drew := by rw [hx6, hy6, hiN6, hjN6]
          rw [E6] at SW5
          clear E6 hx6 hy6 hiN6 hjN6
          go_wp2_with fail
          go_big_region
          clear c1 c2 c3 f1 f2 pa6 sa6 ra6 pb6 sb6 rb6 ea6 eb6
          generalize ((WYJ.setCell ⟨g, iN6, none⟩ (.int .i64 y6)).setCell ⟨g, jN6, none⟩ (.int .i64 x6)).drew = W5 at SW5 ⊢
          go_wp2
          go_roundw
          case rel => exact ⟨xi + 1, yj - 1, Sort.swp d2 xi yj, by omega, by omega, by omega, by go_num, by congr 1; omega, SW5, HP2⟩
          case measure => simp only [intOf]; omega
end Go.Proofs.Ytopikpjagjnbhaa
