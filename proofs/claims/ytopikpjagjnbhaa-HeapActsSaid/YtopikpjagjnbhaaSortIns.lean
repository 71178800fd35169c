/- The sort: a few insertions. -/
import Derived.Test.YtopikpjagjnbhaaSortEq
namespace Go.Proofs.Ytopikpjagjnbhaa
open Go.RowKit
variable {w0 W : World} {hb gk kb n ck g c m : Nat} {ks : List Int} {d : Array Nat}
theorem scn_go (lt : Nat → Nat → Bool) (d : Array Nat) (b i : Nat) (h : i < b) (hl : lt d[i]! d[i - 1]! = false) : Sort.scanSorted lt d b i = Sort.scanSorted lt d b (i + 1) := by
  conv => lhs; rw [Sort.scanSorted]
  rw [if_pos (by simp [h, hl])]
theorem scn_no (lt : Nat → Nat → Bool) (d : Array Nat) (b i : Nat) (hl : lt d[i]! d[i - 1]! = true) : Sort.scanSorted lt d b i = i := by
  rw [Sort.scanSorted, if_neg (by simp [hl])]
theorem scn_end (lt : Nat → Nat → Bool) (d : Array Nat) (b i : Nat) (h : ¬ i < b) : Sort.scanSorted lt d b i = i := by
  rw [Sort.scanSorted, if_neg (by simp [h])]
theorem shd_go (lt : Nat → Nat → Bool) (d : Array Nat) (k : Nat) (h : 0 < k) (hl : lt d[k]! d[k - 1]! = true) : Sort.shiftDown lt k d = Sort.shiftDown lt (k - 1) (Sort.swp d k (k - 1)) := by
  obtain ⟨j, rfl⟩ : ∃ q, k = q + 1 := ⟨k - 1, by omega⟩
  simp only [Nat.add_sub_cancel] at hl ⊢
  rw [Sort.shiftDown, if_neg (by simp [hl])]
theorem shd_no (lt : Nat → Nat → Bool) (d : Array Nat) (k : Nat) (h : 0 < k) (hl : lt d[k]! d[k - 1]! = false) : Sort.shiftDown lt k d = d := by
  obtain ⟨j, rfl⟩ : ∃ q, k = q + 1 := ⟨k - 1, by omega⟩
  simp only [Nat.add_sub_cancel] at hl
  rw [Sort.shiftDown, if_pos (by simp [hl])]
theorem shd_end (lt : Nat → Nat → Bool) (d : Array Nat) (k : Nat) (h : k = 0) : Sort.shiftDown lt k d = d := by
  rw [h, Sort.shiftDown]
theorem shu_go (lt : Nat → Nat → Bool) (d : Array Nat) (b j : Nat) (h : j < b) (hl : lt d[j]! d[j - 1]! = true) : Sort.shiftUp lt b j d = Sort.shiftUp lt b (j + 1) (Sort.swp d j (j - 1)) := by
  rw [Sort.shiftUp, if_pos h, if_neg (by simp [hl])]
theorem shu_no (lt : Nat → Nat → Bool) (d : Array Nat) (b j : Nat) (h : j < b) (hl : lt d[j]! d[j - 1]! = false) : Sort.shiftUp lt b j d = d := by
  rw [Sort.shiftUp, if_pos h, if_pos (by simp [hl])]
theorem shu_end (lt : Nat → Nat → Bool) (d : Array Nat) (b j : Nat) (h : ¬ j < b) : Sort.shiftUp lt b j d = d := by
  rw [Sort.shiftUp, if_neg h]
/-- What a round leaves of the array, behind the two shifts. -/
def insDn (lt : Nat → Nat → Bool) (a x : Nat) (d : Array Nat) : Array Nat := if x - a ≥ 2 then Sort.shiftDown lt (x - 1) d else d
def insUp (lt : Nat → Nat → Bool) (b x : Nat) (d : Array Nat) : Array Nat := if b - x ≥ 2 then Sort.shiftUp lt b (x + 1) d else d
theorem ins_true (lt : Nat → Nat → Bool) (a b s i x : Nat) (d : Array Nat) (hx : x = Sort.scanSorted lt d b i) (h : x = b) : Sort.partialIns lt a b (s + 1) i d = (d, true) := by
  rw [Sort.partialIns]
  simp only
  rw [← hx, if_pos h]
theorem ins_false (lt : Nat → Nat → Bool) (a b s i x : Nat) (d : Array Nat) (hx : x = Sort.scanSorted lt d b i) (h : ¬ x = b) (h2 : b - a < 50) : Sort.partialIns lt a b (s + 1) i d = (d, false) := by
  rw [Sort.partialIns]
  simp only
  rw [← hx, if_neg h, if_pos h2]
theorem ins_go (lt : Nat → Nat → Bool) (a b s i x : Nat) (d : Array Nat) (hx : x = Sort.scanSorted lt d b i) (h : ¬ x = b) (h2 : ¬ b - a < 50) : Sort.partialIns lt a b (s + 1) i d = Sort.partialIns lt a b s x (insUp lt b x (insDn lt a x (Sort.swp d x (x - 1)))) := by
  rw [Sort.partialIns]
  simp only
  rw [← hx, if_neg h, if_neg h2]
  rfl
set_option maxRecDepth 100000 in
set_option maxHeartbeats 8000000 in
/-- A few insertions. -/
theorem sfew (S : Sa w0 W hb gk kb n ck ks g c m d) (a b : Nat) (hab : a < b) (hbm : b ≤ m) (hm : m ≤ 4096) :
    Calls Try.prog 69 #[.slice (some ⟨g, 0, none⟩) m c, .int .i64 a, .int .i64 b, ordF hb] W fun e W' => e = .returned (.bool (Sort.partialInsertionSort (ltF ks) d a b).2) ∧ Sa w0 W' hb gk kb n ck ks g c m (Sort.partialInsertionSort (ltF ks) d a b).1 := by
  have HS := Lib.hid S
  clear S
  have z1 : IntKind.i64.wrap ((a : Int) + 1) = (a : Int) + 1 := by rw [IntKind.wrap_i64] <;> omega
  go_enter Try.func69, Try.ntmps69
  go_wp2_with fail
  go_loopw [9, 10] (fun vi vs wr => ∃ (i s : Nat) (d1 : Array Nat), a < i ∧ i ≤ b ∧ s ≤ 5 ∧ vi = .int .i64 i ∧ vs = .int .i64 s ∧ Hid (Sa w0 wr hb gk kb n ck ks g c m d1) ∧ Hid (Sort.partialIns (ltF ks) a b (5 - s) i d1 = Sort.partialInsertionSort (ltF ks) d a b)) (fun _ vs _ => 5 - (intOf vs).toNat)
  case atStart => exact ⟨a + 1, 0, d, by omega, by omega, by omega, by go_num, rfl, HS, (show Hid _ from rfl)⟩
  case round =>
    obtain ⟨i, s, d1, hi1, hi2, hs, rfl, rfl, HS1, HP1⟩ := hrel
    clear z1 HS
    by_cases hs5 : s < 5
    · have hs5' : (s : Int) < 5 := by omega
      obtain ⟨t, ht⟩ : ∃ q, q = 5 - (s + 1) := ⟨_, rfl⟩
      rw [show 5 - s = t + 1 by omega] at HP1
      have HT := Lib.hid ht
      clear ht
      go_upto_block 2 with fail
      go_cut [9] (fun s9 wc => ∃ x : Nat, s9 = .int .i64 x ∧ i ≤ x ∧ x ≤ b ∧ Hid (x = Sort.scanSorted (ltF ks) d1 b i) ∧ Hid (Sa w0 wc hb gk kb n ck ks g c m d1))
      case first =>
        go_wp2_with fail
        go_loopw [9] (fun vi wr => ∃ k : Nat, i ≤ k ∧ k ≤ b ∧ vi = .int .i64 k ∧ Hid (Sa w0 wr hb gk kb n ck ks g c m d1) ∧ Hid (Sort.scanSorted (ltF ks) d1 b k = Sort.scanSorted (ltF ks) d1 b i)) (fun vi _ => b - (intOf vi).toNat)
        case atStart => exact ⟨i, Nat.le_refl _, by omega, rfl, HS1, (show Hid _ from rfl)⟩
        case round =>
          obtain ⟨k, hk1, hk2, rfl, HSk, HUk⟩ := hrel
          by_cases hkb : k < b
          · have hkb' : (k : Int) < (b : Int) := by omega
            have hkd : decide (k < b) = true := decide_eq_true hkb
            obtain ⟨k1, hk3⟩ : ∃ q, q = k - 1 := ⟨_, rfl⟩
            have zk : (k : Int) - 1 = (k1 : Int) := by omega
            have hk4 : k1 < m := by omega
            cases hv : ltF ks d1[k]! d1[k1]! with
            | true =>
              have HG := Lib.hid ((scn_no (ltF ks) d1 b k (by rw [← hk3]; exact hv)).symm.trans HUk.out)
              clear hk3
              obtain ⟨iN1, hiN1⟩ : ∃ qq, qq = k := ⟨_, rfl⟩
              obtain ⟨jN1, hjN1⟩ : ∃ qq, qq = k1 := ⟨_, rfl⟩
              have ea1 : ((k : Int)).toNat = iN1 := by omega
              have pa1 : (0 : Int) ≤ (k : Int) := by omega
              have sa1 : (k : Int) < (m : Int) := by omega
              have ra1 : IntKind.i64.wrap ((k : Int)) = (k : Int) := by rw [IntKind.wrap_i64] <;> omega
              have eb1 : ((k1 : Int)).toNat = jN1 := by omega
              have pb1 : (0 : Int) ≤ (k1 : Int) := by omega
              have sb1 : (k1 : Int) < (m : Int) := by omega
              have rb1 : IntKind.i64.wrap ((k1 : Int)) = (k1 : Int) := by rw [IntKind.wrap_i64] <;> omega
              obtain ⟨x1, hx1⟩ : ∃ qq, qq = d1[k]! := ⟨_, rfl⟩
              obtain ⟨y1, hy1⟩ : ∃ qq, qq = d1[k1]! := ⟨_, rfl⟩
              have q1 := HSk.out.cell (show k < m by omega)
              rw [← hx1, ← hiN1] at q1
              have q2 := HSk.out.cell (show k1 < m by omega)
              rw [← hy1, ← hjN1] at q2
              have q3 := fun p => HSk.out.cmp (HSk.out.at' (show k < m by omega)).2.2 (HSk.out.at' (show k1 < m by omega)).2.2 p
              rw [← hx1, ← hy1] at q3
              have hv1 : ordV ks x1 y1 < 0 := by rw [hx1, hy1]; exact of_decide_eq_true hv
              generalize ordV ks x1 y1 = ov1 at hv1 q3
              have hd1 : decide (ov1 < 0) = true := decide_eq_true hv1
              clear hx1 hy1 hiN1 hjN1
              go_wp2_with fail
              refine wp_behind (by kernel_rfl) (by kernel_rfl) ?_
              repeat (quiet_step (exact q3 _))
              refine wpQuiet_nil ?_
              rintro W2 ⟨⟨_, hbW2⟩, rfl⟩
              clear q1 q2 q3 hv1 hd1 pa1 sa1 ra1 pb1 sb1 rb1 ea1 eb1
              have SW2 := Lib.hid (HSk.out.below hbW2)
              clear hv
              go_wp2_with fail
              go_meet
              case rel => exact ⟨k, rfl, by omega, by omega, HG, SW2⟩
            | false =>
              have HG := Lib.hid ((scn_go (ltF ks) d1 b k hkb (by rw [← hk3]; exact hv)).symm.trans HUk.out)
              clear hk3
              obtain ⟨iN2, hiN2⟩ : ∃ qq, qq = k := ⟨_, rfl⟩
              obtain ⟨jN2, hjN2⟩ : ∃ qq, qq = k1 := ⟨_, rfl⟩
              have ea2 : ((k : Int)).toNat = iN2 := by omega
              have pa2 : (0 : Int) ≤ (k : Int) := by omega
              have sa2 : (k : Int) < (m : Int) := by omega
              have ra2 : IntKind.i64.wrap ((k : Int)) = (k : Int) := by rw [IntKind.wrap_i64] <;> omega
              have eb2 : ((k1 : Int)).toNat = jN2 := by omega
              have pb2 : (0 : Int) ≤ (k1 : Int) := by omega
              have sb2 : (k1 : Int) < (m : Int) := by omega
              have rb2 : IntKind.i64.wrap ((k1 : Int)) = (k1 : Int) := by rw [IntKind.wrap_i64] <;> omega
              obtain ⟨x2, hx2⟩ : ∃ qq, qq = d1[k]! := ⟨_, rfl⟩
              obtain ⟨y2, hy2⟩ : ∃ qq, qq = d1[k1]! := ⟨_, rfl⟩
              have q1 := HSk.out.cell (show k < m by omega)
              rw [← hx2, ← hiN2] at q1
              have q2 := HSk.out.cell (show k1 < m by omega)
              rw [← hy2, ← hjN2] at q2
              have q3 := fun p => HSk.out.cmp (HSk.out.at' (show k < m by omega)).2.2 (HSk.out.at' (show k1 < m by omega)).2.2 p
              rw [← hx2, ← hy2] at q3
              have hv1 : ¬ ordV ks x2 y2 < 0 := by rw [hx2, hy2]; exact of_decide_eq_false hv
              generalize ordV ks x2 y2 = ov2 at hv1 q3
              have hd1 : decide (ov2 < 0) = false := decide_eq_false hv1
              clear hx2 hy2 hiN2 hjN2
              go_wp2_with fail
              refine wp_behind (by kernel_rfl) (by kernel_rfl) ?_
              repeat (quiet_step (exact q3 _))
              refine wpQuiet_nil ?_
              rintro W2 ⟨⟨_, hbW2⟩, rfl⟩
              clear q1 q2 q3 hv1 hd1 pa2 sa2 ra2 pb2 sb2 rb2 ea2 eb2
              have SW2 := Lib.hid (HSk.out.below hbW2)
              have e1 : IntKind.i64.wrap ((k : Int) + 1) = (k : Int) + 1 := by rw [IntKind.wrap_i64] <;> omega
              clear hv
              go_wp2
              go_roundw
              case rel => exact ⟨k + 1, by omega, by omega, by go_num, SW2, HG⟩
              case measure => simp only [intOf]; omega
          · have hkb' : ¬ (k : Int) < (b : Int) := by omega
            have hkd : decide (k < b) = false := decide_eq_false hkb
            have HG := Lib.hid ((scn_end (ltF ks) d1 b k hkb).symm.trans HUk.out)
            go_wp2_with fail
            go_big_region
            have SW2 := Lib.hid (HSk.out.below (below_dr (Below.refl wr.heap.size wr) 1))
            change Hid (Sa _ wr.drew _ _ _ _ _ _ _ _ _ _) at SW2
            generalize wr.drew = W2 at SW2 ⊢
            go_wp2_with fail
            go_meet
            case rel => exact ⟨k, rfl, by omega, by omega, HG, SW2⟩
      case rest =>
        obtain ⟨xi, rfl, hx1, hx2, HX, SX⟩ := hcut
        obtain ⟨WX, rfl⟩ : ∃ q, q = wc := ⟨_, rfl⟩
        clear HS1
        by_cases hxb : xi = b
        · have HP2 := Lib.hid ((ins_true (ltF ks) a b t i xi d1 HX.out hxb).symm.trans HP1.out)
          subst hxb
          go_wp2
          go_ret
          exact ⟨by rw [← HP2.out]; rfl, by rw [← HP2.out]; exact SX.out⟩
        · have hxb' : ¬ (xi : Int) = (b : Int) := by omega
          have zb : IntKind.i64.wrap ((b : Int) - (a : Int)) = (b : Int) - (a : Int) := by rw [IntKind.wrap_i64] <;> omega
          by_cases h50 : b - a < 50
          · have h50' : (b : Int) - (a : Int) < 50 := by omega
            have HP2 := Lib.hid ((ins_false (ltF ks) a b t i xi d1 HX.out hxb h50).symm.trans HP1.out)
            go_wp2
            go_ret
            exact ⟨by rw [← HP2.out]; rfl, by rw [← HP2.out]; exact SX.out⟩
          · have h50' : ¬ (b : Int) - (a : Int) < 50 := by omega
            have HP2 := Lib.hid ((ins_go (ltF ks) a b t i xi d1 HX.out hxb h50).symm.trans HP1.out)
            clear HP1
            obtain ⟨iN3, hiN3⟩ : ∃ qq, qq = xi := ⟨_, rfl⟩
            obtain ⟨jN3, hjN3⟩ : ∃ qq, qq = xi - 1 := ⟨_, rfl⟩
            have ea3 : ((xi : Int)).toNat = iN3 := by omega
            have pa3 : (0 : Int) ≤ (xi : Int) := by omega
            have sa3 : (xi : Int) < (m : Int) := by omega
            have ra3 : IntKind.i64.wrap ((xi : Int)) = (xi : Int) := by rw [IntKind.wrap_i64] <;> omega
            have eb3 : ((xi : Int) - 1).toNat = jN3 := by omega
            have pb3 : (0 : Int) ≤ (xi : Int) - 1 := by omega
            have sb3 : (xi : Int) - 1 < (m : Int) := by omega
            have rb3 : IntKind.i64.wrap ((xi : Int) - 1) = (xi : Int) - 1 := by rw [IntKind.wrap_i64] <;> omega
            have SW5 := Lib.hid (SX.out.swap (show xi < m by omega) (show xi - 1 < m by omega))
            obtain ⟨x3, hx3⟩ : ∃ qq, qq = d1[xi]! := ⟨_, rfl⟩
            obtain ⟨y3, hy3⟩ : ∃ qq, qq = d1[xi - 1]! := ⟨_, rfl⟩
            have c1 : WX.cell? ⟨g, iN3, none⟩ = some (.int .i64 (x3 : Nat)) := by rw [hiN3, hx3]; exact (SX.out.at' (show xi < m by omega)).1
            have f1 : WX.frozen? ⟨g, iN3, none⟩ = false := by rw [hiN3]; exact (SX.out.at' (show xi < m by omega)).2.1
            have c2 : WX.cell? ⟨g, jN3, none⟩ = some (.int .i64 (y3 : Nat)) := by rw [hjN3, hy3]; exact (SX.out.at' (show xi - 1 < m by omega)).1
            have f2 : WX.frozen? ⟨g, jN3, none⟩ = false := by rw [hjN3]; exact (SX.out.at' (show xi - 1 < m by omega)).2.1
            obtain ⟨u3, c3⟩ : ∃ u, (WX.setCell ⟨g, iN3, none⟩ (.int .i64 (y3 : Nat))).cell? ⟨g, jN3, none⟩ = some u := by rw [hiN3, hjN3, hy3]; exact SX.out.two (show xi < m by omega) (show xi - 1 < m by omega)
            have E3 : ((WX.setCell ⟨g, xi, none⟩ (.int .i64 (d1[xi - 1]! : Nat))).setCell ⟨g, xi - 1, none⟩ (.int .i64 (d1[xi]! : Nat))).drew = ((WX.setCell ⟨g, iN3, none⟩ (.int .i64 y3)).setCell ⟨g, jN3, none⟩ (.int .i64 x3)).drew := by rw [hx3, hy3, hiN3, hjN3]
            rw [E3] at SW5
            clear E3 hx3 hy3 hiN3 hjN3
            go_wp2_with fail
            go_big_region
            clear c1 c2 c3 f1 f2 pa3 sa3 ra3 pb3 sb3 rb3 ea3 eb3
            generalize ((WX.setCell ⟨g, iN3, none⟩ (.int .i64 y3)).setCell ⟨g, jN3, none⟩ (.int .i64 x3)).drew = W5 at SW5 ⊢
            obtain ⟨d2, hd2⟩ : ∃ q, q = Sort.swp d1 xi (xi - 1) := ⟨_, rfl⟩
            rw [← hd2] at SW5 HP2
            clear hd2 SX
            have zx : IntKind.i64.wrap ((xi : Int) - (a : Int)) = (xi : Int) - (a : Int) := by rw [IntKind.wrap_i64] <;> omega
            have zx1 : IntKind.i64.wrap ((xi : Int) - 1) = (xi : Int) - 1 := by rw [IntKind.wrap_i64] <;> omega
            go_upto_if 65 with fail
            go_cut [9] (fun s9 wc => s9 = .int .i64 xi ∧ Hid (Sa w0 wc hb gk kb n ck ks g c m (insDn (ltF ks) a xi d2)))
            case first =>
              by_cases h2 : 2 ≤ xi - a
              · have h2' : (2 : Int) ≤ (xi : Int) - (a : Int) := by omega
                have HI := Lib.hid (show insDn (ltF ks) a xi d2 = Sort.shiftDown (ltF ks) (xi - 1) d2 from if_pos h2)
                have hdd : decide ((2 : Int) ≤ (xi : Int) - (a : Int)) = true := decide_eq_true h2'
                rw [hdd]
                go_wp2_with fail
                go_loopw [11] (fun vi wr => ∃ (k : Nat) (d3 : Array Nat), k < m ∧ vi = .int .i64 k ∧ Hid (Sa w0 wr hb gk kb n ck ks g c m d3) ∧ Hid (Sort.shiftDown (ltF ks) k d3 = insDn (ltF ks) a xi d2)) (fun vi _ => (intOf vi).toNat)
                case atStart => exact ⟨xi - 1, d2, by omega, by congr 1; omega, SW5, (show Hid _ from HI.out.symm)⟩
                case round =>
                  obtain ⟨k, d3, hkm, rfl, HSk, HUk⟩ := hrel
                  by_cases hk0 : 1 ≤ k
                  · have hk0' : (1 : Int) ≤ (k : Int) := by omega
                    obtain ⟨k1, hk3⟩ : ∃ q, q = k - 1 := ⟨_, rfl⟩
                    have zk : (k : Int) - 1 = (k1 : Int) := by omega
                    have hk4 : k1 < m ∧ k1 < k := by omega
                    have wk : IntKind.i64.wrap (k1 : Int) = (k1 : Int) := by rw [IntKind.wrap_i64] <;> omega
                    cases hv : ltF ks d3[k]! d3[k1]! with
                    | true =>
                      have HG := Lib.hid ((shd_go (ltF ks) d3 k hk0 (by rw [← hk3]; exact hv)).symm.trans HUk.out)
                      rw [← hk3] at HG
                      clear hk3
                      obtain ⟨iN4, hiN4⟩ : ∃ qq, qq = k := ⟨_, rfl⟩
                      obtain ⟨jN4, hjN4⟩ : ∃ qq, qq = k1 := ⟨_, rfl⟩
                      have ea4 : ((k : Int)).toNat = iN4 := by omega
                      have pa4 : (0 : Int) ≤ (k : Int) := by omega
                      have sa4 : (k : Int) < (m : Int) := by omega
                      have ra4 : IntKind.i64.wrap ((k : Int)) = (k : Int) := by rw [IntKind.wrap_i64] <;> omega
                      have eb4 : ((k1 : Int)).toNat = jN4 := by omega
                      have pb4 : (0 : Int) ≤ (k1 : Int) := by omega
                      have sb4 : (k1 : Int) < (m : Int) := by omega
                      have rb4 : IntKind.i64.wrap ((k1 : Int)) = (k1 : Int) := by rw [IntKind.wrap_i64] <;> omega
                      obtain ⟨x4, hx4⟩ : ∃ qq, qq = d3[k]! := ⟨_, rfl⟩
                      obtain ⟨y4, hy4⟩ : ∃ qq, qq = d3[k1]! := ⟨_, rfl⟩
                      have q1 := HSk.out.cell (show k < m by omega)
                      rw [← hx4, ← hiN4] at q1
                      have q2 := HSk.out.cell (show k1 < m by omega)
                      rw [← hy4, ← hjN4] at q2
                      have q3 := fun p => HSk.out.cmp (HSk.out.at' (show k < m by omega)).2.2 (HSk.out.at' (show k1 < m by omega)).2.2 p
                      rw [← hx4, ← hy4] at q3
                      have hv1 : ordV ks x4 y4 < 0 := by rw [hx4, hy4]; exact of_decide_eq_true hv
                      generalize ordV ks x4 y4 = ov4 at hv1 q3
                      have hd1 : decide (ov4 < 0) = true := decide_eq_true hv1
                      clear hx4 hy4 hiN4 hjN4
                      go_wp2_with fail
                      refine wp_behind (by kernel_rfl) (by kernel_rfl) ?_
                      repeat (quiet_step (exact q3 _))
                      refine wpQuiet_nil ?_
                      rintro W2 ⟨⟨_, hbW2⟩, rfl⟩
                      clear q1 q2 q3 hv1 hd1 pa4 sa4 ra4 pb4 sb4 rb4 ea4 eb4
                      have SW2 := Lib.hid (HSk.out.below hbW2)
                      clear hv
                      obtain ⟨iN5, hiN5⟩ : ∃ qq, qq = k := ⟨_, rfl⟩
                      obtain ⟨jN5, hjN5⟩ : ∃ qq, qq = k1 := ⟨_, rfl⟩
                      have ea5 : ((k : Int)).toNat = iN5 := by omega
                      have pa5 : (0 : Int) ≤ (k : Int) := by omega
                      have sa5 : (k : Int) < (m : Int) := by omega
                      have ra5 : IntKind.i64.wrap ((k : Int)) = (k : Int) := by rw [IntKind.wrap_i64] <;> omega
                      have eb5 : ((k1 : Int)).toNat = jN5 := by omega
                      have pb5 : (0 : Int) ≤ (k1 : Int) := by omega
                      have sb5 : (k1 : Int) < (m : Int) := by omega
                      have rb5 : IntKind.i64.wrap ((k1 : Int)) = (k1 : Int) := by rw [IntKind.wrap_i64] <;> omega
                      have SW6 := Lib.hid (SW2.out.swap (show k < m by omega) (show k1 < m by omega))
                      obtain ⟨x5, hx5⟩ : ∃ qq, qq = d3[k]! := ⟨_, rfl⟩
                      obtain ⟨y5, hy5⟩ : ∃ qq, qq = d3[k1]! := ⟨_, rfl⟩
                      have c1 : W2.cell? ⟨g, iN5, none⟩ = some (.int .i64 (x5 : Nat)) := by rw [hiN5, hx5]; exact (SW2.out.at' (show k < m by omega)).1
                      have f1 : W2.frozen? ⟨g, iN5, none⟩ = false := by rw [hiN5]; exact (SW2.out.at' (show k < m by omega)).2.1
                      have c2 : W2.cell? ⟨g, jN5, none⟩ = some (.int .i64 (y5 : Nat)) := by rw [hjN5, hy5]; exact (SW2.out.at' (show k1 < m by omega)).1
                      have f2 : W2.frozen? ⟨g, jN5, none⟩ = false := by rw [hjN5]; exact (SW2.out.at' (show k1 < m by omega)).2.1
                      obtain ⟨u3, c3⟩ : ∃ u, (W2.setCell ⟨g, iN5, none⟩ (.int .i64 (y5 : Nat))).cell? ⟨g, jN5, none⟩ = some u := by rw [hiN5, hjN5, hy5]; exact SW2.out.two (show k < m by omega) (show k1 < m by omega)
                      have E5 : ((W2.setCell ⟨g, k, none⟩ (.int .i64 (d3[k1]! : Nat))).setCell ⟨g, k1, none⟩ (.int .i64 (d3[k]! : Nat))).drew = ((W2.setCell ⟨g, iN5, none⟩ (.int .i64 y5)).setCell ⟨g, jN5, none⟩ (.int .i64 x5)).drew := by rw [hx5, hy5, hiN5, hjN5]
                      rw [E5] at SW6
                      clear E5 hx5 hy5 hiN5 hjN5
                      go_wp2_with fail
                      go_big_region
                      clear c1 c2 c3 f1 f2 pa5 sa5 ra5 pb5 sb5 rb5 ea5 eb5
                      generalize ((W2.setCell ⟨g, iN5, none⟩ (.int .i64 y5)).setCell ⟨g, jN5, none⟩ (.int .i64 x5)).drew = W6 at SW6 ⊢
                      go_wp2
                      go_roundw
                      case rel => exact ⟨k1, Sort.swp d3 k k1, by omega, rfl, SW6, HG⟩
                      case measure => simp only [intOf]; omega
                    | false =>
                      have HG := Lib.hid ((shd_no (ltF ks) d3 k hk0 (by rw [← hk3]; exact hv)).symm.trans HUk.out)
                      clear hk3
                      obtain ⟨iN6, hiN6⟩ : ∃ qq, qq = k := ⟨_, rfl⟩
                      obtain ⟨jN6, hjN6⟩ : ∃ qq, qq = k1 := ⟨_, rfl⟩
                      have ea6 : ((k : Int)).toNat = iN6 := by omega
                      have pa6 : (0 : Int) ≤ (k : Int) := by omega
                      have sa6 : (k : Int) < (m : Int) := by omega
                      have ra6 : IntKind.i64.wrap ((k : Int)) = (k : Int) := by rw [IntKind.wrap_i64] <;> omega
                      have eb6 : ((k1 : Int)).toNat = jN6 := by omega
                      have pb6 : (0 : Int) ≤ (k1 : Int) := by omega
                      have sb6 : (k1 : Int) < (m : Int) := by omega
                      have rb6 : IntKind.i64.wrap ((k1 : Int)) = (k1 : Int) := by rw [IntKind.wrap_i64] <;> omega
                      obtain ⟨x6, hx6⟩ : ∃ qq, qq = d3[k]! := ⟨_, rfl⟩
                      obtain ⟨y6, hy6⟩ : ∃ qq, qq = d3[k1]! := ⟨_, rfl⟩
                      have q1 := HSk.out.cell (show k < m by omega)
                      rw [← hx6, ← hiN6] at q1
                      have q2 := HSk.out.cell (show k1 < m by omega)
                      rw [← hy6, ← hjN6] at q2
                      have q3 := fun p => HSk.out.cmp (HSk.out.at' (show k < m by omega)).2.2 (HSk.out.at' (show k1 < m by omega)).2.2 p
                      rw [← hx6, ← hy6] at q3
                      have hv1 : ¬ ordV ks x6 y6 < 0 := by rw [hx6, hy6]; exact of_decide_eq_false hv
                      generalize ordV ks x6 y6 = ov6 at hv1 q3
                      have hd1 : decide (ov6 < 0) = false := decide_eq_false hv1
                      clear hx6 hy6 hiN6 hjN6
                      go_wp2_with fail
                      refine wp_behind (by kernel_rfl) (by kernel_rfl) ?_
                      repeat (quiet_step (exact q3 _))
                      refine wpQuiet_nil ?_
                      rintro W2 ⟨⟨_, hbW2⟩, rfl⟩
                      clear q1 q2 q3 hv1 hd1 pa6 sa6 ra6 pb6 sb6 rb6 ea6 eb6
                      have SW2 := Lib.hid (HSk.out.below hbW2)
                      clear hv
                      go_wp2_with fail
                      go_meet
                      case rel => exact ⟨rfl, (show Hid _ from by rw [← HG.out]; exact SW2.out)⟩
                  · have hk0' : ¬ (1 : Int) ≤ (k : Int) := by omega
                    have HG := Lib.hid ((shd_end (ltF ks) d3 k (by omega)).symm.trans HUk.out)
                    go_wp2_with fail
                    go_meet
                    case rel => exact ⟨rfl, (show Hid _ from by rw [← HG.out]; exact HSk.out)⟩
              · have h2' : ¬ (2 : Int) ≤ (xi : Int) - (a : Int) := by omega
                have HI := Lib.hid (show insDn (ltF ks) a xi d2 = d2 from if_neg h2)
                have hdd : decide ((2 : Int) ≤ (xi : Int) - (a : Int)) = false := decide_eq_false h2'
                rw [hdd]
                go_wp2_with fail
                go_meet
                case rel => exact ⟨rfl, (show Hid _ from by rw [HI.out]; exact SW5.out)⟩
            case rest =>
              obtain ⟨rfl, SZ⟩ := hcut
              obtain ⟨WZ, rfl⟩ : ∃ q, q = wc := ⟨_, rfl⟩
              obtain ⟨d4, hd4⟩ : ∃ q, q = insDn (ltF ks) a xi d2 := ⟨_, rfl⟩
              rw [← hd4] at SZ HP2
              clear hd4 SW5
              have zb1 : IntKind.i64.wrap ((b : Int) - (xi : Int)) = (b : Int) - (xi : Int) := by rw [IntKind.wrap_i64] <;> omega
              have zb2 : IntKind.i64.wrap ((xi : Int) + 1) = (xi : Int) + 1 := by rw [IntKind.wrap_i64] <;> omega
              have e5 : IntKind.i64.wrap ((s : Int) + 1) = (s : Int) + 1 := by rw [IntKind.wrap_i64] <;> omega
              by_cases h3 : 2 ≤ b - xi
              · have h3' : (2 : Int) ≤ (b : Int) - (xi : Int) := by omega
                have HI := Lib.hid (show insUp (ltF ks) b xi d4 = Sort.shiftUp (ltF ks) b (xi + 1) d4 from if_pos h3)
                go_wp2_with fail
                go_loopw [12] (fun vi wr => ∃ (k : Nat) (d3 : Array Nat), xi < k ∧ k ≤ b ∧ vi = .int .i64 k ∧ Hid (Sa w0 wr hb gk kb n ck ks g c m d3) ∧ Hid (Sort.shiftUp (ltF ks) b k d3 = insUp (ltF ks) b xi d4)) (fun vi _ => b - (intOf vi).toNat)
                case atStart => exact ⟨xi + 1, d4, by omega, by omega, by go_num, SZ, (show Hid _ from HI.out.symm)⟩
                case round =>
                  obtain ⟨k, d3, hkm, hkb, rfl, HSk, HUk⟩ := hrel
                  by_cases hk0 : k < b
                  · have hk0' : (k : Int) < (b : Int) := by omega
                    obtain ⟨k1, hk3⟩ : ∃ q, q = k - 1 := ⟨_, rfl⟩
                    have zk : (k : Int) - 1 = (k1 : Int) := by omega
                    have hk4 : k1 < m ∧ k < m := by omega
                    have wk : IntKind.i64.wrap (k1 : Int) = (k1 : Int) := by rw [IntKind.wrap_i64] <;> omega
                    have wk1 : IntKind.i64.wrap ((k : Int) + 1) = (k : Int) + 1 := by rw [IntKind.wrap_i64] <;> omega
                    cases hv : ltF ks d3[k]! d3[k1]! with
                    | true =>
                      have HG := Lib.hid ((shu_go (ltF ks) d3 b k hk0 (by rw [← hk3]; exact hv)).symm.trans HUk.out)
                      rw [← hk3] at HG
                      clear hk3
                      obtain ⟨iN7, hiN7⟩ : ∃ qq, qq = k := ⟨_, rfl⟩
                      obtain ⟨jN7, hjN7⟩ : ∃ qq, qq = k1 := ⟨_, rfl⟩
                      have ea7 : ((k : Int)).toNat = iN7 := by omega
                      have pa7 : (0 : Int) ≤ (k : Int) := by omega
                      have sa7 : (k : Int) < (m : Int) := by omega
                      have ra7 : IntKind.i64.wrap ((k : Int)) = (k : Int) := by rw [IntKind.wrap_i64] <;> omega
                      have eb7 : ((k1 : Int)).toNat = jN7 := by omega
                      have pb7 : (0 : Int) ≤ (k1 : Int) := by omega
                      have sb7 : (k1 : Int) < (m : Int) := by omega
                      have rb7 : IntKind.i64.wrap ((k1 : Int)) = (k1 : Int) := by rw [IntKind.wrap_i64] <;> omega
                      obtain ⟨x7, hx7⟩ : ∃ qq, qq = d3[k]! := ⟨_, rfl⟩
                      obtain ⟨y7, hy7⟩ : ∃ qq, qq = d3[k1]! := ⟨_, rfl⟩
                      have q1 := HSk.out.cell (show k < m by omega)
                      rw [← hx7, ← hiN7] at q1
                      have q2 := HSk.out.cell (show k1 < m by omega)
                      rw [← hy7, ← hjN7] at q2
                      have q3 := fun p => HSk.out.cmp (HSk.out.at' (show k < m by omega)).2.2 (HSk.out.at' (show k1 < m by omega)).2.2 p
                      rw [← hx7, ← hy7] at q3
                      have hv1 : ordV ks x7 y7 < 0 := by rw [hx7, hy7]; exact of_decide_eq_true hv
                      generalize ordV ks x7 y7 = ov7 at hv1 q3
                      have hd1 : decide (ov7 < 0) = true := decide_eq_true hv1
                      clear hx7 hy7 hiN7 hjN7
                      go_wp2_with fail
                      refine wp_behind (by kernel_rfl) (by kernel_rfl) ?_
                      repeat (quiet_step (exact q3 _))
                      refine wpQuiet_nil ?_
                      rintro W2 ⟨⟨_, hbW2⟩, rfl⟩
                      clear q1 q2 q3 hv1 hd1 pa7 sa7 ra7 pb7 sb7 rb7 ea7 eb7
                      have SW2 := Lib.hid (HSk.out.below hbW2)
                      clear hv
                      obtain ⟨iN8, hiN8⟩ : ∃ qq, qq = k := ⟨_, rfl⟩
                      obtain ⟨jN8, hjN8⟩ : ∃ qq, qq = k1 := ⟨_, rfl⟩
                      have ea8 : ((k : Int)).toNat = iN8 := by omega
                      have pa8 : (0 : Int) ≤ (k : Int) := by omega
                      have sa8 : (k : Int) < (m : Int) := by omega
                      have ra8 : IntKind.i64.wrap ((k : Int)) = (k : Int) := by rw [IntKind.wrap_i64] <;> omega
                      have eb8 : ((k1 : Int)).toNat = jN8 := by omega
                      have pb8 : (0 : Int) ≤ (k1 : Int) := by omega
                      have sb8 : (k1 : Int) < (m : Int) := by omega
                      have rb8 : IntKind.i64.wrap ((k1 : Int)) = (k1 : Int) := by rw [IntKind.wrap_i64] <;> omega
                      have SW6 := Lib.hid (SW2.out.swap (show k < m by omega) (show k1 < m by omega))
                      obtain ⟨x8, hx8⟩ : ∃ qq, qq = d3[k]! := ⟨_, rfl⟩
                      obtain ⟨y8, hy8⟩ : ∃ qq, qq = d3[k1]! := ⟨_, rfl⟩
                      have c1 : W2.cell? ⟨g, iN8, none⟩ = some (.int .i64 (x8 : Nat)) := by rw [hiN8, hx8]; exact (SW2.out.at' (show k < m by omega)).1
                      have f1 : W2.frozen? ⟨g, iN8, none⟩ = false := by rw [hiN8]; exact (SW2.out.at' (show k < m by omega)).2.1
                      have c2 : W2.cell? ⟨g, jN8, none⟩ = some (.int .i64 (y8 : Nat)) := by rw [hjN8, hy8]; exact (SW2.out.at' (show k1 < m by omega)).1
                      have f2 : W2.frozen? ⟨g, jN8, none⟩ = false := by rw [hjN8]; exact (SW2.out.at' (show k1 < m by omega)).2.1
                      obtain ⟨u3, c3⟩ : ∃ u, (W2.setCell ⟨g, iN8, none⟩ (.int .i64 (y8 : Nat))).cell? ⟨g, jN8, none⟩ = some u := by rw [hiN8, hjN8, hy8]; exact SW2.out.two (show k < m by omega) (show k1 < m by omega)
                      have E8 : ((W2.setCell ⟨g, k, none⟩ (.int .i64 (d3[k1]! : Nat))).setCell ⟨g, k1, none⟩ (.int .i64 (d3[k]! : Nat))).drew = ((W2.setCell ⟨g, iN8, none⟩ (.int .i64 y8)).setCell ⟨g, jN8, none⟩ (.int .i64 x8)).drew := by rw [hx8, hy8, hiN8, hjN8]
                      rw [E8] at SW6
                      clear E8 hx8 hy8 hiN8 hjN8
                      go_wp2_with fail
                      go_big_region
                      clear c1 c2 c3 f1 f2 pa8 sa8 ra8 pb8 sb8 rb8 ea8 eb8
                      generalize ((W2.setCell ⟨g, iN8, none⟩ (.int .i64 y8)).setCell ⟨g, jN8, none⟩ (.int .i64 x8)).drew = W6 at SW6 ⊢
                      go_wp2
                      go_roundw
                      case rel => exact ⟨k + 1, Sort.swp d3 k k1, by omega, by omega, by go_num, SW6, HG⟩
                      case measure => simp only [intOf]; omega
                    | false =>
                      have HG := Lib.hid ((shu_no (ltF ks) d3 b k hk0 (by rw [← hk3]; exact hv)).symm.trans HUk.out)
                      clear hk3
                      obtain ⟨iN9, hiN9⟩ : ∃ qq, qq = k := ⟨_, rfl⟩
                      obtain ⟨jN9, hjN9⟩ : ∃ qq, qq = k1 := ⟨_, rfl⟩
                      have ea9 : ((k : Int)).toNat = iN9 := by omega
                      have pa9 : (0 : Int) ≤ (k : Int) := by omega
                      have sa9 : (k : Int) < (m : Int) := by omega
                      have ra9 : IntKind.i64.wrap ((k : Int)) = (k : Int) := by rw [IntKind.wrap_i64] <;> omega
                      have eb9 : ((k1 : Int)).toNat = jN9 := by omega
                      have pb9 : (0 : Int) ≤ (k1 : Int) := by omega
                      have sb9 : (k1 : Int) < (m : Int) := by omega
                      have rb9 : IntKind.i64.wrap ((k1 : Int)) = (k1 : Int) := by rw [IntKind.wrap_i64] <;> omega
                      obtain ⟨x9, hx9⟩ : ∃ qq, qq = d3[k]! := ⟨_, rfl⟩
                      obtain ⟨y9, hy9⟩ : ∃ qq, qq = d3[k1]! := ⟨_, rfl⟩
                      have q1 := HSk.out.cell (show k < m by omega)
                      rw [← hx9, ← hiN9] at q1
                      have q2 := HSk.out.cell (show k1 < m by omega)
                      rw [← hy9, ← hjN9] at q2
                      have q3 := fun p => HSk.out.cmp (HSk.out.at' (show k < m by omega)).2.2 (HSk.out.at' (show k1 < m by omega)).2.2 p
                      rw [← hx9, ← hy9] at q3
                      have hv1 : ¬ ordV ks x9 y9 < 0 := by rw [hx9, hy9]; exact of_decide_eq_false hv
                      generalize ordV ks x9 y9 = ov9 at hv1 q3
                      have hd1 : decide (ov9 < 0) = false := decide_eq_false hv1
                      clear hx9 hy9 hiN9 hjN9
                      go_wp2_with fail
                      refine wp_behind (by kernel_rfl) (by kernel_rfl) ?_
                      repeat (quiet_step (exact q3 _))
                      refine wpQuiet_nil ?_
                      rintro W2 ⟨⟨_, hbW2⟩, rfl⟩
                      clear q1 q2 q3 hv1 hd1 pa9 sa9 ra9 pb9 sb9 rb9 ea9 eb9
                      have SW2 := Lib.hid (HSk.out.below hbW2)
                      clear hv
                      go_wp2
                      go_roundw
                      case rel => exact ⟨xi, s + 1, insUp (ltF ks) b xi d4, by omega, by omega, by omega, rfl, by go_num, (show Hid _ from by rw [← HG.out]; exact SW2.out), Lib.hid (by rw [← HT.out]; exact HP2.out)⟩
                      case measure => simp only [intOf]; omega
                  · have hk0' : ¬ (k : Int) < (b : Int) := by omega
                    have HG := Lib.hid ((shu_end (ltF ks) d3 b k hk0).symm.trans HUk.out)
                    go_wp2
                    go_roundw
                    case rel => exact ⟨xi, s + 1, insUp (ltF ks) b xi d4, by omega, by omega, by omega, rfl, by go_num, (show Hid _ from by rw [← HG.out]; exact HSk.out), Lib.hid (by rw [← HT.out]; exact HP2.out)⟩
                    case measure => simp only [intOf]; omega
              · have h3' : ¬ (2 : Int) ≤ (b : Int) - (xi : Int) := by omega
                have HI := Lib.hid (show insUp (ltF ks) b xi d4 = d4 from if_neg h3)
                go_wp2
                go_roundw
                case rel => exact ⟨xi, s + 1, insUp (ltF ks) b xi d4, by omega, by omega, by omega, rfl, by go_num, (show Hid _ from by rw [HI.out]; exact SZ.out), Lib.hid (by rw [← HT.out]; exact HP2.out)⟩
                case measure => simp only [intOf]; omega
    · have hs5' : ¬ (s : Int) < 5 := by omega
      have e5 : s = 5 := by omega
      have HP2 := Lib.hid (show Sort.partialInsertionSort (ltF ks) d a b = (d1, false) by rw [← HP1.out, e5]; rfl)
      clear e5
      go_wp2
      go_ret
      exact ⟨by rw [HP2.out]; rfl, by rw [HP2.out]; exact HS1.out⟩
end Go.Proofs.Ytopikpjagjnbhaa
