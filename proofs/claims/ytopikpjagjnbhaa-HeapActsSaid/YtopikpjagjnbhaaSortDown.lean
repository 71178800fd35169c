/- The sort's sift. -/
import Derived.Test.YtopikpjagjnbhaaSortW
namespace Go.Proofs.Ytopikpjagjnbhaa
open Go.RowKit
variable {w0 W : World} {hb gk kb n ck g c m : Nat} {ks : List Int} {d : Array Nat}
theorem sift_end (lt : Nat → Nat → Bool) (hi f r : Nat) (d : Array Nat) (h : hi ≤ 2 * r + 1) : Sort.siftDown lt hi f r d = d := by
  rw [Sort.siftDown, dif_pos h]
/-- Where the greater child is. -/
def sKid (lt : Nat → Nat → Bool) (hi f r : Nat) (d : Array Nat) : Nat := if 2 * r + 1 + 1 < hi ∧ lt d[f + (2 * r + 1)]! d[f + (2 * r + 1) + 1]! = true then 2 * r + 2 else 2 * r + 1
theorem sift_go (lt : Nat → Nat → Bool) (hi f r : Nat) (d : Array Nat) (h : ¬ hi ≤ 2 * r + 1) : Sort.siftDown lt hi f r d = if lt d[f + r]! d[f + sKid lt hi f r d]! = true then Sort.siftDown lt hi f (sKid lt hi f r d) (Sort.swp d (f + r) (f + sKid lt hi f r d)) else d := by
  rw [Sort.siftDown, dif_neg (by omega)]
  unfold sKid
  by_cases h1 : 2 * r + 1 + 1 < hi ∧ lt d[f + (2 * r + 1)]! d[f + (2 * r + 1) + 1]! = true
  · rw [if_pos h1, if_pos (by simpa using h1), dif_pos (by omega)]
    cases lt d[f + r]! d[f + (2 * r + 2)]! <;> simp
  · rw [if_neg h1, if_neg (by simpa using h1)]
    cases lt d[f + r]! d[f + (2 * r + 1)]! <;> simp
set_option maxRecDepth 100000 in
set_option maxHeartbeats 8000000 in
/-- The sift. -/
theorem ssift (S : Sa w0 W hb gk kb n ck ks g c m d) (lo hi f : Nat) (hfm : f + hi ≤ m) (hlo : lo ≤ hi) (hm : m ≤ 4096) :
    Calls Try.prog 79 #[.slice (some ⟨g, 0, none⟩) m c, .int .i64 lo, .int .i64 hi, .int .i64 f, ordF hb] W fun e W' => e = .returned (.tuple #[]) ∧ Sa w0 W' hb gk kb n ck ks g c m (Sort.siftDown (ltF ks) hi f lo d) := by
  have HS := Lib.hid S
  clear S
  go_enter Try.func79, Try.ntmps79
  go_wp2
  go_loopw [10] (fun i wr => ∃ (r : Nat) (d1 : Array Nat), r ≤ hi ∧ i = .int .i64 r ∧ Hid (Sa w0 wr hb gk kb n ck ks g c m d1) ∧ Hid (Sort.siftDown (ltF ks) hi f r d1 = Sort.siftDown (ltF ks) hi f lo d)) (fun i _ => hi - (intOf i).toNat)
  case atStart => exact ⟨lo, d, hlo, rfl, (show Hid _ from HS.out), (show Hid _ from rfl)⟩
  case round =>
    obtain ⟨r, d1, hr, rfl, HS1, HP1⟩ := hrel
    by_cases hc : hi ≤ 2 * r + 1
    · have hc' : (hi : Int) ≤ 2 * (r : Int) + 1 := by omega
      go_wp2
      go_end0
      exact ⟨rfl, by rw [← HP1.out, sift_end _ _ _ _ _ hc]; exact HS1.out⟩
    · have hc' : ¬ (hi : Int) ≤ 2 * (r : Int) + 1 := by omega
      have HG := Lib.hid ((sift_go (ltF ks) hi f r d1 hc).symm.trans HP1.out)
      clear HP1
      obtain ⟨k2, hk2⟩ : ∃ q, q = 2 * r + 2 := ⟨_, rfl⟩
      have w2 : IntKind.i64.wrap (2 * (r : Int) + 1 + 1) = (k2 : Int) := by rw [IntKind.wrap_i64] <;> omega
      have hrk2 : r < k2 := by omega
      have HK2 := Lib.hid hk2
      by_cases h2 : 2 * r + 1 + 1 < hi
      · have hkl2 : k2 < hi := by omega
        have h2' : (k2 : Int) < (hi : Int) := by omega
        clear hk2
        cases hv : ltF ks d1[f + (2 * r + 1)]! d1[f + (2 * r + 1) + 1]! with
        | true =>
          obtain ⟨iN1, hiN1⟩ : ∃ q, q = f + (2 * r + 1) := ⟨_, rfl⟩
          obtain ⟨jN1, hjN1⟩ : ∃ q, q = f + (2 * r + 1) + 1 := ⟨_, rfl⟩
          have ea1 : ((f : Int) + (2 * (r : Int) + 1)).toNat = iN1 := by omega
          have pa1 : (0 : Int) ≤ (f : Int) + (2 * (r : Int) + 1) := by omega
          have sa1 : (f : Int) + (2 * (r : Int) + 1) < (m : Int) := by omega
          have ra1 : IntKind.i64.wrap ((f : Int) + (2 * (r : Int) + 1)) = (f : Int) + (2 * (r : Int) + 1) := by rw [IntKind.wrap_i64] <;> omega
          have eb1 : ((f : Int) + (2 * (r : Int) + 1) + 1).toNat = jN1 := by omega
          have pb1 : (0 : Int) ≤ (f : Int) + (2 * (r : Int) + 1) + 1 := by omega
          have sb1 : (f : Int) + (2 * (r : Int) + 1) + 1 < (m : Int) := by omega
          have rb1 : IntKind.i64.wrap ((f : Int) + (2 * (r : Int) + 1) + 1) = (f : Int) + (2 * (r : Int) + 1) + 1 := by rw [IntKind.wrap_i64] <;> omega
          have q1 := HS1.out.cell (show f + (2 * r + 1) < m by omega)
          have q2 := HS1.out.cell (show f + (2 * r + 1) + 1 < m by omega)
          have q3 := fun p => HS1.out.cmp (HS1.out.at' (show f + (2 * r + 1) < m by omega)).2.2 (HS1.out.at' (show f + (2 * r + 1) + 1 < m by omega)).2.2 p
          obtain ⟨x1, hx1⟩ : ∃ x, x = d1[f + (2 * r + 1)]! := ⟨_, rfl⟩
          obtain ⟨y1, hy1⟩ : ∃ x, x = d1[f + (2 * r + 1) + 1]! := ⟨_, rfl⟩
          rw [← hx1] at q1 q3
          rw [← hy1] at q2 q3
          rw [← hiN1] at q1
          rw [← hjN1] at q2
          have hv1 : ordV ks x1 y1 < 0 := by rw [hx1, hy1]; exact of_decide_eq_true hv
          generalize ordV ks x1 y1 = ov1 at hv1 q3
          have hd1 : decide (ov1 < 0) = true := decide_eq_true hv1
          clear hx1 hy1 hiN1 hjN1
          go_wp2_with fail
          refine wp_behind (by kernel_rfl) (by kernel_rfl) ?_
          repeat (quiet_step (exact q3 _))
          refine wpQuiet_nil ?_
          rintro W2 ⟨⟨_, hbW2⟩, rfl⟩
          clear q1 q2 q3 hv1 hd1 pa1 sa1 ra1 pb1 sb1 rb1 ea1 eb1
          have SW2 := Lib.hid (HS1.out.below hbW2)
          have HK := Lib.hid (show sKid (ltF ks) hi f r d1 = 2 * r + 2 from if_pos ⟨h2, hv⟩)
          clear hv
          rw [HK.out, ← HK2.out] at HG
          clear HK
          go_wp2_with fail
          obtain ⟨kk, rfl⟩ : ∃ q, q = k2 := ⟨_, rfl⟩
          have hkl := hkl2
          have hrk := hrk2
          cases hu : ltF ks d1[f + r]! d1[f + kk]! with
          | true =>
            obtain ⟨iN2, hiN2⟩ : ∃ q, q = f + r := ⟨_, rfl⟩
            obtain ⟨jN2, hjN2⟩ : ∃ q, q = f + kk := ⟨_, rfl⟩
            have ea2 : ((f : Int) + (r : Int)).toNat = iN2 := by omega
            have pa2 : (0 : Int) ≤ (f : Int) + (r : Int) := by omega
            have sa2 : (f : Int) + (r : Int) < (m : Int) := by omega
            have ra2 : IntKind.i64.wrap ((f : Int) + (r : Int)) = (f : Int) + (r : Int) := by rw [IntKind.wrap_i64] <;> omega
            have eb2 : ((f : Int) + (kk : Int)).toNat = jN2 := by omega
            have pb2 : (0 : Int) ≤ (f : Int) + (kk : Int) := by omega
            have sb2 : (f : Int) + (kk : Int) < (m : Int) := by omega
            have rb2 : IntKind.i64.wrap ((f : Int) + (kk : Int)) = (f : Int) + (kk : Int) := by rw [IntKind.wrap_i64] <;> omega
            have q1 := SW2.out.cell (show f + r < m by omega)
            have q2 := SW2.out.cell (show f + kk < m by omega)
            have q3 := fun p => SW2.out.cmp (SW2.out.at' (show f + r < m by omega)).2.2 (SW2.out.at' (show f + kk < m by omega)).2.2 p
            obtain ⟨x2, hx2⟩ : ∃ x, x = d1[f + r]! := ⟨_, rfl⟩
            obtain ⟨y2, hy2⟩ : ∃ x, x = d1[f + kk]! := ⟨_, rfl⟩
            rw [← hx2] at q1 q3
            rw [← hy2] at q2 q3
            rw [← hiN2] at q1
            rw [← hjN2] at q2
            have hv1 : ordV ks x2 y2 < 0 := by rw [hx2, hy2]; exact of_decide_eq_true hu
            generalize ordV ks x2 y2 = ov2 at hv1 q3
            have hd1 : decide (ov2 < 0) = true := decide_eq_true hv1
            clear hx2 hy2 hiN2 hjN2
            go_wp2_with fail
            refine wp_behind (by kernel_rfl) (by kernel_rfl) ?_
            repeat (quiet_step (exact q3 _))
            refine wpQuiet_nil ?_
            rintro W4 ⟨⟨_, hbW4⟩, rfl⟩
            clear q1 q2 q3 hv1 hd1 pa2 sa2 ra2 pb2 sb2 rb2 ea2 eb2
            have SW4 := Lib.hid (SW2.out.below hbW4)
            have HG1 := Lib.hid ((if_pos hu).symm.trans HG.out)
            clear hu HG
            obtain ⟨iN3, hiN3⟩ : ∃ q, q = f + r := ⟨_, rfl⟩
            obtain ⟨jN3, hjN3⟩ : ∃ q, q = f + kk := ⟨_, rfl⟩
            have ea3 : ((f : Int) + (r : Int)).toNat = iN3 := by omega
            have pa3 : (0 : Int) ≤ (f : Int) + (r : Int) := by omega
            have sa3 : (f : Int) + (r : Int) < (m : Int) := by omega
            have ra3 : IntKind.i64.wrap ((f : Int) + (r : Int)) = (f : Int) + (r : Int) := by rw [IntKind.wrap_i64] <;> omega
            have eb3 : ((f : Int) + (kk : Int)).toNat = jN3 := by omega
            have pb3 : (0 : Int) ≤ (f : Int) + (kk : Int) := by omega
            have sb3 : (f : Int) + (kk : Int) < (m : Int) := by omega
            have rb3 : IntKind.i64.wrap ((f : Int) + (kk : Int)) = (f : Int) + (kk : Int) := by rw [IntKind.wrap_i64] <;> omega
            obtain ⟨c1, f1, _⟩ := SW4.out.at' (show f + r < m by omega)
            obtain ⟨c2, f2, _⟩ := SW4.out.at' (show f + kk < m by omega)
            obtain ⟨u3, c3⟩ := SW4.out.two (show f + r < m by omega) (show f + kk < m by omega)
            have SW5 := Lib.hid (SW4.out.swap (show f + r < m by omega) (show f + kk < m by omega))
            obtain ⟨x3, hx3⟩ : ∃ x, x = d1[f + r]! := ⟨_, rfl⟩
            obtain ⟨y3, hy3⟩ : ∃ x, x = d1[f + kk]! := ⟨_, rfl⟩
            rw [← hx3] at c1
            rw [← hy3] at c2 c3
            rw [← hiN3] at c1 f1 c3
            rw [← hjN3] at c2 f2 c3
            have E3 : ((W4.setCell ⟨g, f + r, none⟩ (.int .i64 (d1[f + kk]! : Nat))).setCell ⟨g, f + kk, none⟩ (.int .i64 (d1[f + r]! : Nat))).drew = ((W4.setCell ⟨g, iN3, none⟩ (.int .i64 y3)).setCell ⟨g, jN3, none⟩ (.int .i64 x3)).drew := by rw [hx3, hy3, hiN3, hjN3]
            rw [E3] at SW5
            clear E3 hx3 hy3 hiN3 hjN3
            go_wp2_with fail
            go_big_region
            clear c1 c2 c3 f1 f2 pa3 sa3 ra3 pb3 sb3 rb3 ea3 eb3
            generalize ((W4.setCell ⟨g, iN3, none⟩ (.int .i64 y3)).setCell ⟨g, jN3, none⟩ (.int .i64 x3)).drew = W5 at SW5 ⊢
            go_wp2
            go_roundw
            case rel => exact ⟨kk, Sort.swp d1 (f + r) (f + kk), by omega, rfl, SW5, HG1⟩
            case measure => simp only [intOf]; omega
          | false =>
            obtain ⟨iN4, hiN4⟩ : ∃ q, q = f + r := ⟨_, rfl⟩
            obtain ⟨jN4, hjN4⟩ : ∃ q, q = f + kk := ⟨_, rfl⟩
            have ea4 : ((f : Int) + (r : Int)).toNat = iN4 := by omega
            have pa4 : (0 : Int) ≤ (f : Int) + (r : Int) := by omega
            have sa4 : (f : Int) + (r : Int) < (m : Int) := by omega
            have ra4 : IntKind.i64.wrap ((f : Int) + (r : Int)) = (f : Int) + (r : Int) := by rw [IntKind.wrap_i64] <;> omega
            have eb4 : ((f : Int) + (kk : Int)).toNat = jN4 := by omega
            have pb4 : (0 : Int) ≤ (f : Int) + (kk : Int) := by omega
            have sb4 : (f : Int) + (kk : Int) < (m : Int) := by omega
            have rb4 : IntKind.i64.wrap ((f : Int) + (kk : Int)) = (f : Int) + (kk : Int) := by rw [IntKind.wrap_i64] <;> omega
            have q1 := SW2.out.cell (show f + r < m by omega)
            have q2 := SW2.out.cell (show f + kk < m by omega)
            have q3 := fun p => SW2.out.cmp (SW2.out.at' (show f + r < m by omega)).2.2 (SW2.out.at' (show f + kk < m by omega)).2.2 p
            obtain ⟨x4, hx4⟩ : ∃ x, x = d1[f + r]! := ⟨_, rfl⟩
            obtain ⟨y4, hy4⟩ : ∃ x, x = d1[f + kk]! := ⟨_, rfl⟩
            rw [← hx4] at q1 q3
            rw [← hy4] at q2 q3
            rw [← hiN4] at q1
            rw [← hjN4] at q2
            have hv1 : ¬ ordV ks x4 y4 < 0 := by rw [hx4, hy4]; exact of_decide_eq_false hu
            generalize ordV ks x4 y4 = ov4 at hv1 q3
            have hd1 : decide (ov4 < 0) = false := decide_eq_false hv1
            clear hx4 hy4 hiN4 hjN4
            go_wp2_with fail
            refine wp_behind (by kernel_rfl) (by kernel_rfl) ?_
            repeat (quiet_step (exact q3 _))
            refine wpQuiet_nil ?_
            rintro W4 ⟨⟨_, hbW4⟩, rfl⟩
            clear q1 q2 q3 hv1 hd1 pa4 sa4 ra4 pb4 sb4 rb4 ea4 eb4
            have SW4 := Lib.hid (SW2.out.below hbW4)
            have HG1 := Lib.hid ((if_neg (by rw [hu]; exact Bool.false_ne_true)).symm.trans HG.out)
            clear hu HG
            go_wp2
            refine bodyPost_ret (results_none rfl _ _ _) rfl ?_
            exact ⟨rfl, by rw [← HG1.out]; exact SW4.out⟩
        | false =>
          obtain ⟨iN5, hiN5⟩ : ∃ q, q = f + (2 * r + 1) := ⟨_, rfl⟩
          obtain ⟨jN5, hjN5⟩ : ∃ q, q = f + (2 * r + 1) + 1 := ⟨_, rfl⟩
          have ea5 : ((f : Int) + (2 * (r : Int) + 1)).toNat = iN5 := by omega
          have pa5 : (0 : Int) ≤ (f : Int) + (2 * (r : Int) + 1) := by omega
          have sa5 : (f : Int) + (2 * (r : Int) + 1) < (m : Int) := by omega
          have ra5 : IntKind.i64.wrap ((f : Int) + (2 * (r : Int) + 1)) = (f : Int) + (2 * (r : Int) + 1) := by rw [IntKind.wrap_i64] <;> omega
          have eb5 : ((f : Int) + (2 * (r : Int) + 1) + 1).toNat = jN5 := by omega
          have pb5 : (0 : Int) ≤ (f : Int) + (2 * (r : Int) + 1) + 1 := by omega
          have sb5 : (f : Int) + (2 * (r : Int) + 1) + 1 < (m : Int) := by omega
          have rb5 : IntKind.i64.wrap ((f : Int) + (2 * (r : Int) + 1) + 1) = (f : Int) + (2 * (r : Int) + 1) + 1 := by rw [IntKind.wrap_i64] <;> omega
          have q1 := HS1.out.cell (show f + (2 * r + 1) < m by omega)
          have q2 := HS1.out.cell (show f + (2 * r + 1) + 1 < m by omega)
          have q3 := fun p => HS1.out.cmp (HS1.out.at' (show f + (2 * r + 1) < m by omega)).2.2 (HS1.out.at' (show f + (2 * r + 1) + 1 < m by omega)).2.2 p
          obtain ⟨x5, hx5⟩ : ∃ x, x = d1[f + (2 * r + 1)]! := ⟨_, rfl⟩
          obtain ⟨y5, hy5⟩ : ∃ x, x = d1[f + (2 * r + 1) + 1]! := ⟨_, rfl⟩
          rw [← hx5] at q1 q3
          rw [← hy5] at q2 q3
          rw [← hiN5] at q1
          rw [← hjN5] at q2
          have hv1 : ¬ ordV ks x5 y5 < 0 := by rw [hx5, hy5]; exact of_decide_eq_false hv
          generalize ordV ks x5 y5 = ov5 at hv1 q3
          have hd1 : decide (ov5 < 0) = false := decide_eq_false hv1
          clear hx5 hy5 hiN5 hjN5
          go_wp2_with fail
          refine wp_behind (by kernel_rfl) (by kernel_rfl) ?_
          repeat (quiet_step (exact q3 _))
          refine wpQuiet_nil ?_
          rintro W2 ⟨⟨_, hbW2⟩, rfl⟩
          clear q1 q2 q3 hv1 hd1 pa5 sa5 ra5 pb5 sb5 rb5 ea5 eb5
          have SW2 := Lib.hid (HS1.out.below hbW2)
          have HK := Lib.hid (show sKid (ltF ks) hi f r d1 = 2 * r + 1 from if_neg (by rw [hv]; simp))
          clear hv
          obtain ⟨kk, hkk⟩ : ∃ q, q = 2 * r + 1 := ⟨_, rfl⟩
          have zkk : 2 * (r : Int) + 1 = (kk : Int) := by omega
          rw [HK.out, ← hkk] at HG
          clear HK
          go_wp2_with fail
          rw [zkk]
          have hkl : kk < hi := by omega
          have hrk : r < kk := by omega
          clear zkk hkk
          cases hu : ltF ks d1[f + r]! d1[f + kk]! with
          | true =>
            obtain ⟨iN6, hiN6⟩ : ∃ q, q = f + r := ⟨_, rfl⟩
            obtain ⟨jN6, hjN6⟩ : ∃ q, q = f + kk := ⟨_, rfl⟩
            have ea6 : ((f : Int) + (r : Int)).toNat = iN6 := by omega
            have pa6 : (0 : Int) ≤ (f : Int) + (r : Int) := by omega
            have sa6 : (f : Int) + (r : Int) < (m : Int) := by omega
            have ra6 : IntKind.i64.wrap ((f : Int) + (r : Int)) = (f : Int) + (r : Int) := by rw [IntKind.wrap_i64] <;> omega
            have eb6 : ((f : Int) + (kk : Int)).toNat = jN6 := by omega
            have pb6 : (0 : Int) ≤ (f : Int) + (kk : Int) := by omega
            have sb6 : (f : Int) + (kk : Int) < (m : Int) := by omega
            have rb6 : IntKind.i64.wrap ((f : Int) + (kk : Int)) = (f : Int) + (kk : Int) := by rw [IntKind.wrap_i64] <;> omega
            have q1 := SW2.out.cell (show f + r < m by omega)
            have q2 := SW2.out.cell (show f + kk < m by omega)
            have q3 := fun p => SW2.out.cmp (SW2.out.at' (show f + r < m by omega)).2.2 (SW2.out.at' (show f + kk < m by omega)).2.2 p
            obtain ⟨x6, hx6⟩ : ∃ x, x = d1[f + r]! := ⟨_, rfl⟩
            obtain ⟨y6, hy6⟩ : ∃ x, x = d1[f + kk]! := ⟨_, rfl⟩
            rw [← hx6] at q1 q3
            rw [← hy6] at q2 q3
            rw [← hiN6] at q1
            rw [← hjN6] at q2
            have hv1 : ordV ks x6 y6 < 0 := by rw [hx6, hy6]; exact of_decide_eq_true hu
            generalize ordV ks x6 y6 = ov6 at hv1 q3
            have hd1 : decide (ov6 < 0) = true := decide_eq_true hv1
            clear hx6 hy6 hiN6 hjN6
            go_wp2_with fail
            refine wp_behind (by kernel_rfl) (by kernel_rfl) ?_
            repeat (quiet_step (exact q3 _))
            refine wpQuiet_nil ?_
            rintro W4 ⟨⟨_, hbW4⟩, rfl⟩
            clear q1 q2 q3 hv1 hd1 pa6 sa6 ra6 pb6 sb6 rb6 ea6 eb6
            have SW4 := Lib.hid (SW2.out.below hbW4)
            have HG1 := Lib.hid ((if_pos hu).symm.trans HG.out)
            clear hu HG
            obtain ⟨iN7, hiN7⟩ : ∃ q, q = f + r := ⟨_, rfl⟩
            obtain ⟨jN7, hjN7⟩ : ∃ q, q = f + kk := ⟨_, rfl⟩
            have ea7 : ((f : Int) + (r : Int)).toNat = iN7 := by omega
            have pa7 : (0 : Int) ≤ (f : Int) + (r : Int) := by omega
            have sa7 : (f : Int) + (r : Int) < (m : Int) := by omega
            have ra7 : IntKind.i64.wrap ((f : Int) + (r : Int)) = (f : Int) + (r : Int) := by rw [IntKind.wrap_i64] <;> omega
            have eb7 : ((f : Int) + (kk : Int)).toNat = jN7 := by omega
            have pb7 : (0 : Int) ≤ (f : Int) + (kk : Int) := by omega
            have sb7 : (f : Int) + (kk : Int) < (m : Int) := by omega
            have rb7 : IntKind.i64.wrap ((f : Int) + (kk : Int)) = (f : Int) + (kk : Int) := by rw [IntKind.wrap_i64] <;> omega
            obtain ⟨c1, f1, _⟩ := SW4.out.at' (show f + r < m by omega)
            obtain ⟨c2, f2, _⟩ := SW4.out.at' (show f + kk < m by omega)
            obtain ⟨u3, c3⟩ := SW4.out.two (show f + r < m by omega) (show f + kk < m by omega)
            have SW5 := Lib.hid (SW4.out.swap (show f + r < m by omega) (show f + kk < m by omega))
            obtain ⟨x7, hx7⟩ : ∃ x, x = d1[f + r]! := ⟨_, rfl⟩
            obtain ⟨y7, hy7⟩ : ∃ x, x = d1[f + kk]! := ⟨_, rfl⟩
            rw [← hx7] at c1
            rw [← hy7] at c2 c3
            rw [← hiN7] at c1 f1 c3
            rw [← hjN7] at c2 f2 c3
            have E7 : ((W4.setCell ⟨g, f + r, none⟩ (.int .i64 (d1[f + kk]! : Nat))).setCell ⟨g, f + kk, none⟩ (.int .i64 (d1[f + r]! : Nat))).drew = ((W4.setCell ⟨g, iN7, none⟩ (.int .i64 y7)).setCell ⟨g, jN7, none⟩ (.int .i64 x7)).drew := by rw [hx7, hy7, hiN7, hjN7]
            rw [E7] at SW5
            clear E7 hx7 hy7 hiN7 hjN7
            go_wp2_with fail
            go_big_region
            clear c1 c2 c3 f1 f2 pa7 sa7 ra7 pb7 sb7 rb7 ea7 eb7
            generalize ((W4.setCell ⟨g, iN7, none⟩ (.int .i64 y7)).setCell ⟨g, jN7, none⟩ (.int .i64 x7)).drew = W5 at SW5 ⊢
            go_wp2
            go_roundw
            case rel => exact ⟨kk, Sort.swp d1 (f + r) (f + kk), by omega, rfl, SW5, HG1⟩
            case measure => simp only [intOf]; omega
          | false =>
            obtain ⟨iN8, hiN8⟩ : ∃ q, q = f + r := ⟨_, rfl⟩
            obtain ⟨jN8, hjN8⟩ : ∃ q, q = f + kk := ⟨_, rfl⟩
            have ea8 : ((f : Int) + (r : Int)).toNat = iN8 := by omega
            have pa8 : (0 : Int) ≤ (f : Int) + (r : Int) := by omega
            have sa8 : (f : Int) + (r : Int) < (m : Int) := by omega
            have ra8 : IntKind.i64.wrap ((f : Int) + (r : Int)) = (f : Int) + (r : Int) := by rw [IntKind.wrap_i64] <;> omega
            have eb8 : ((f : Int) + (kk : Int)).toNat = jN8 := by omega
            have pb8 : (0 : Int) ≤ (f : Int) + (kk : Int) := by omega
            have sb8 : (f : Int) + (kk : Int) < (m : Int) := by omega
            have rb8 : IntKind.i64.wrap ((f : Int) + (kk : Int)) = (f : Int) + (kk : Int) := by rw [IntKind.wrap_i64] <;> omega
            have q1 := SW2.out.cell (show f + r < m by omega)
            have q2 := SW2.out.cell (show f + kk < m by omega)
            have q3 := fun p => SW2.out.cmp (SW2.out.at' (show f + r < m by omega)).2.2 (SW2.out.at' (show f + kk < m by omega)).2.2 p
            obtain ⟨x8, hx8⟩ : ∃ x, x = d1[f + r]! := ⟨_, rfl⟩
            obtain ⟨y8, hy8⟩ : ∃ x, x = d1[f + kk]! := ⟨_, rfl⟩
            rw [← hx8] at q1 q3
            rw [← hy8] at q2 q3
            rw [← hiN8] at q1
            rw [← hjN8] at q2
            have hv1 : ¬ ordV ks x8 y8 < 0 := by rw [hx8, hy8]; exact of_decide_eq_false hu
            generalize ordV ks x8 y8 = ov8 at hv1 q3
            have hd1 : decide (ov8 < 0) = false := decide_eq_false hv1
            clear hx8 hy8 hiN8 hjN8
            go_wp2_with fail
            refine wp_behind (by kernel_rfl) (by kernel_rfl) ?_
            repeat (quiet_step (exact q3 _))
            refine wpQuiet_nil ?_
            rintro W4 ⟨⟨_, hbW4⟩, rfl⟩
            clear q1 q2 q3 hv1 hd1 pa8 sa8 ra8 pb8 sb8 rb8 ea8 eb8
            have SW4 := Lib.hid (SW2.out.below hbW4)
            have HG1 := Lib.hid ((if_neg (by rw [hu]; exact Bool.false_ne_true)).symm.trans HG.out)
            clear hu HG
            go_wp2
            refine bodyPost_ret (results_none rfl _ _ _) rfl ?_
            exact ⟨rfl, by rw [← HG1.out]; exact SW4.out⟩
      · have h2m : ¬ k2 < hi := by omega
        have h2d : decide (k2 < hi) = false := decide_eq_false h2m
        have h2n : ¬ (k2 : Int) < (hi : Int) := by omega
        have h2' : decide ((k2 : Int) < (hi : Int)) = false := decide_eq_false h2n
        clear hk2
        go_wp2_with fail
        go_big_region
        have SW2 := Lib.hid (HS1.out.below (below_dr (Below.refl wr.heap.size wr) 1))
        change Hid (Sa _ wr.drew _ _ _ _ _ _ _ _ _ _) at SW2
        generalize wr.drew = W2 at SW2 ⊢
        have HK := Lib.hid (show sKid (ltF ks) hi f r d1 = 2 * r + 1 from if_neg (fun h => h2 h.1))
        obtain ⟨kk, hkk⟩ : ∃ q, q = 2 * r + 1 := ⟨_, rfl⟩
        have zkk : 2 * (r : Int) + 1 = (kk : Int) := by omega
        rw [HK.out, ← hkk] at HG
        clear HK
        go_wp2_with fail
        rw [zkk]
        have hkl : kk < hi := by omega
        have hrk : r < kk := by omega
        clear zkk hkk
        cases hu : ltF ks d1[f + r]! d1[f + kk]! with
        | true =>
          obtain ⟨iN9, hiN9⟩ : ∃ q, q = f + r := ⟨_, rfl⟩
          obtain ⟨jN9, hjN9⟩ : ∃ q, q = f + kk := ⟨_, rfl⟩
          have ea9 : ((f : Int) + (r : Int)).toNat = iN9 := by omega
          have pa9 : (0 : Int) ≤ (f : Int) + (r : Int) := by omega
          have sa9 : (f : Int) + (r : Int) < (m : Int) := by omega
          have ra9 : IntKind.i64.wrap ((f : Int) + (r : Int)) = (f : Int) + (r : Int) := by rw [IntKind.wrap_i64] <;> omega
          have eb9 : ((f : Int) + (kk : Int)).toNat = jN9 := by omega
          have pb9 : (0 : Int) ≤ (f : Int) + (kk : Int) := by omega
          have sb9 : (f : Int) + (kk : Int) < (m : Int) := by omega
          have rb9 : IntKind.i64.wrap ((f : Int) + (kk : Int)) = (f : Int) + (kk : Int) := by rw [IntKind.wrap_i64] <;> omega
          have q1 := SW2.out.cell (show f + r < m by omega)
          have q2 := SW2.out.cell (show f + kk < m by omega)
          have q3 := fun p => SW2.out.cmp (SW2.out.at' (show f + r < m by omega)).2.2 (SW2.out.at' (show f + kk < m by omega)).2.2 p
          obtain ⟨x9, hx9⟩ : ∃ x, x = d1[f + r]! := ⟨_, rfl⟩
          obtain ⟨y9, hy9⟩ : ∃ x, x = d1[f + kk]! := ⟨_, rfl⟩
          rw [← hx9] at q1 q3
          rw [← hy9] at q2 q3
          rw [← hiN9] at q1
          rw [← hjN9] at q2
          have hv1 : ordV ks x9 y9 < 0 := by rw [hx9, hy9]; exact of_decide_eq_true hu
          generalize ordV ks x9 y9 = ov9 at hv1 q3
          have hd1 : decide (ov9 < 0) = true := decide_eq_true hv1
          clear hx9 hy9 hiN9 hjN9
          go_wp2_with fail
          refine wp_behind (by kernel_rfl) (by kernel_rfl) ?_
          repeat (quiet_step (exact q3 _))
          refine wpQuiet_nil ?_
          rintro W4 ⟨⟨_, hbW4⟩, rfl⟩
          clear q1 q2 q3 hv1 hd1 pa9 sa9 ra9 pb9 sb9 rb9 ea9 eb9
          have SW4 := Lib.hid (SW2.out.below hbW4)
          have HG1 := Lib.hid ((if_pos hu).symm.trans HG.out)
          clear hu HG
          obtain ⟨iN10, hiN10⟩ : ∃ q, q = f + r := ⟨_, rfl⟩
          obtain ⟨jN10, hjN10⟩ : ∃ q, q = f + kk := ⟨_, rfl⟩
          have ea10 : ((f : Int) + (r : Int)).toNat = iN10 := by omega
          have pa10 : (0 : Int) ≤ (f : Int) + (r : Int) := by omega
          have sa10 : (f : Int) + (r : Int) < (m : Int) := by omega
          have ra10 : IntKind.i64.wrap ((f : Int) + (r : Int)) = (f : Int) + (r : Int) := by rw [IntKind.wrap_i64] <;> omega
          have eb10 : ((f : Int) + (kk : Int)).toNat = jN10 := by omega
          have pb10 : (0 : Int) ≤ (f : Int) + (kk : Int) := by omega
          have sb10 : (f : Int) + (kk : Int) < (m : Int) := by omega
          have rb10 : IntKind.i64.wrap ((f : Int) + (kk : Int)) = (f : Int) + (kk : Int) := by rw [IntKind.wrap_i64] <;> omega
          obtain ⟨c1, f1, _⟩ := SW4.out.at' (show f + r < m by omega)
          obtain ⟨c2, f2, _⟩ := SW4.out.at' (show f + kk < m by omega)
          obtain ⟨u3, c3⟩ := SW4.out.two (show f + r < m by omega) (show f + kk < m by omega)
          have SW5 := Lib.hid (SW4.out.swap (show f + r < m by omega) (show f + kk < m by omega))
          obtain ⟨x10, hx10⟩ : ∃ x, x = d1[f + r]! := ⟨_, rfl⟩
          obtain ⟨y10, hy10⟩ : ∃ x, x = d1[f + kk]! := ⟨_, rfl⟩
          rw [← hx10] at c1
          rw [← hy10] at c2 c3
          rw [← hiN10] at c1 f1 c3
          rw [← hjN10] at c2 f2 c3
          have E10 : ((W4.setCell ⟨g, f + r, none⟩ (.int .i64 (d1[f + kk]! : Nat))).setCell ⟨g, f + kk, none⟩ (.int .i64 (d1[f + r]! : Nat))).drew = ((W4.setCell ⟨g, iN10, none⟩ (.int .i64 y10)).setCell ⟨g, jN10, none⟩ (.int .i64 x10)).drew := by rw [hx10, hy10, hiN10, hjN10]
          rw [E10] at SW5
          clear E10 hx10 hy10 hiN10 hjN10
          go_wp2_with fail
          go_big_region
          clear c1 c2 c3 f1 f2 pa10 sa10 ra10 pb10 sb10 rb10 ea10 eb10
          generalize ((W4.setCell ⟨g, iN10, none⟩ (.int .i64 y10)).setCell ⟨g, jN10, none⟩ (.int .i64 x10)).drew = W5 at SW5 ⊢
          go_wp2
          go_roundw
          case rel => exact ⟨kk, Sort.swp d1 (f + r) (f + kk), by omega, rfl, SW5, HG1⟩
          case measure => simp only [intOf]; omega
        | false =>
          obtain ⟨iN11, hiN11⟩ : ∃ q, q = f + r := ⟨_, rfl⟩
          obtain ⟨jN11, hjN11⟩ : ∃ q, q = f + kk := ⟨_, rfl⟩
          have ea11 : ((f : Int) + (r : Int)).toNat = iN11 := by omega
          have pa11 : (0 : Int) ≤ (f : Int) + (r : Int) := by omega
          have sa11 : (f : Int) + (r : Int) < (m : Int) := by omega
          have ra11 : IntKind.i64.wrap ((f : Int) + (r : Int)) = (f : Int) + (r : Int) := by rw [IntKind.wrap_i64] <;> omega
          have eb11 : ((f : Int) + (kk : Int)).toNat = jN11 := by omega
          have pb11 : (0 : Int) ≤ (f : Int) + (kk : Int) := by omega
          have sb11 : (f : Int) + (kk : Int) < (m : Int) := by omega
          have rb11 : IntKind.i64.wrap ((f : Int) + (kk : Int)) = (f : Int) + (kk : Int) := by rw [IntKind.wrap_i64] <;> omega
          have q1 := SW2.out.cell (show f + r < m by omega)
          have q2 := SW2.out.cell (show f + kk < m by omega)
          have q3 := fun p => SW2.out.cmp (SW2.out.at' (show f + r < m by omega)).2.2 (SW2.out.at' (show f + kk < m by omega)).2.2 p
          obtain ⟨x11, hx11⟩ : ∃ x, x = d1[f + r]! := ⟨_, rfl⟩
          obtain ⟨y11, hy11⟩ : ∃ x, x = d1[f + kk]! := ⟨_, rfl⟩
          rw [← hx11] at q1 q3
          rw [← hy11] at q2 q3
          rw [← hiN11] at q1
          rw [← hjN11] at q2
          have hv1 : ¬ ordV ks x11 y11 < 0 := by rw [hx11, hy11]; exact of_decide_eq_false hu
          generalize ordV ks x11 y11 = ov11 at hv1 q3
          have hd1 : decide (ov11 < 0) = false := decide_eq_false hv1
          clear hx11 hy11 hiN11 hjN11
          go_wp2_with fail
          refine wp_behind (by kernel_rfl) (by kernel_rfl) ?_
          repeat (quiet_step (exact q3 _))
          refine wpQuiet_nil ?_
          rintro W4 ⟨⟨_, hbW4⟩, rfl⟩
          clear q1 q2 q3 hv1 hd1 pa11 sa11 ra11 pb11 sb11 rb11 ea11 eb11
          have SW4 := Lib.hid (SW2.out.below hbW4)
          have HG1 := Lib.hid ((if_neg (by rw [hu]; exact Bool.false_ne_true)).symm.trans HG.out)
          clear hu HG
          go_wp2
          refine bodyPost_ret (results_none rfl _ _ _) rfl ?_
          exact ⟨rfl, by rw [← HG1.out]; exact SW4.out⟩
end Go.Proofs.Ytopikpjagjnbhaa
