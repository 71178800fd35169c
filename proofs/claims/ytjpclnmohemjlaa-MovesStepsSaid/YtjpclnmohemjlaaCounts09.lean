/- The law MovesCounts. -/
import Derived.Test.YtjpclnmohemjlaaSame09
import Derived.Test.YtjpclnmohemjlaaRefNeed09
namespace Go.Proofs.Ytjpclnmohemjlaa
open Go.RowKit
def exPlan : List Mv := [⟨3, 0, 2⟩, ⟨2, 1, 2⟩, ⟨1, 1, 0⟩]
theorem exPlan_eq : planV [1, 1, 1, 0] [1, 2] = exPlan := by decide
set_option maxRecDepth 100000 in
set_option maxHeartbeats 1000000 in
theorem lives09 (w : World) : Calls Try.prog 8 #[] w fun e w' => e = .returned (.bool true) ∧ Below w.heap.size w w' := by
  have HP := Lib.hid (fun A m c B n d W h1 h2 => mplan A m c [1, 1, 1, 0] B n d [1, 2] W h1 h2 (by intro t ht; simp at ht; unfold I64; omega))
  rw [exPlan_eq] at HP
  have HL := Lib.hid (fun A n c W h h2 => lplain A n c exPlan W h h2)
  have HS := Lib.hid (fun A n c B m d W h h2 => rsame A n c exPlan B m d exPlan W h h2)
  have r1 := rds_lit w 3 1 4 [.int .i64 1, .int .i64 1, .int .i64 1, .int .i64 0] rfl (by decide)
  have b1 : Below w.heap.size w (w.alloc (.cells #[.int .i64 1, .int .i64 1, .int .i64 1, .int .i64 0] 3)) := below_al (Below.refl _ _) _
  have r2 := rds_lit (w.alloc (.cells #[.int .i64 1, .int .i64 1, .int .i64 1, .int .i64 0] 3)) 3 1 2 [.int .i64 1, .int .i64 2] rfl (by decide)
  have b2 := below_al b1 (.cells #[.int .i64 1, .int .i64 2] 3)
  have r1' := r1.below (below_al (Below.refl _ _) (.cells #[.int .i64 1, .int .i64 2] 3))
  rw [show (w.alloc (.cells #[.int .i64 1, .int .i64 1, .int .i64 1, .int .i64 0] 3)).heap.size = w.heap.size + 1 by simp] at r2
  go_enter Try.func8, Try.ntmps8
  go_wp2_with fail
  refine (HP.out _ _ _ _ _ _ _ r1' r2).mono ?_
  rintro e w3 ⟨⟨v, rfl, hv⟩, hb3⟩
  obtain ⟨A3, c3, rfl⟩ := own_slice hv
  have hv3 := (own_rds' hv).2
  have hB3 := below_tr b2 hb3
  clear r1' r2 r1 b1 b2 hb3 hv
  go_wp2_with fail
  refine (HL.out _ _ _ _ hv3 (by decide)).mono ?_
  rintro e w4 ⟨⟨v4, rfl, hv4⟩, hb4⟩
  obtain ⟨A4, c4, rfl⟩ := own_slice hv4
  have hv4' := (own_rds' hv4).2
  have hB4 := below_tr hB3 hb4
  clear hv3 hb4 hv4 hB3
  have r5 := rds_lit w4 44 3 3 (mvs exPlan) rfl (by decide)
  have r6 := hv4'.below (below_al (Below.refl _ _) (.cells (mvs exPlan).toArray 44))
  go_wp2_with fail
  refine (HS.out _ _ _ _ _ _ _ r6 r5).mono ?_
  rintro e w5 ⟨rfl, hb5⟩
  simp only [decide_true]
  go_wp2
  go_ret
  exact ⟨rfl, below_tr (below_al hB4 _) hb5⟩
theorem ret_b {a b : Bool} (h : a = b) : Ending.returned (.bool a) = .returned (.bool b) := by rw [h]
set_option maxRecDepth 100000 in
set_option maxHeartbeats 4000000 in
theorem countsLaw (A : Option Addr) (m c : Nat) (os : List Int) (k : Int) (B : Option Addr) (n d : Nat) (ts : List Int) (w : World) (hr : Rds w 1 A m c (nums .i64 os)) (hr2 : Rds w 1 B n d (nums .i64 ts)) (hti : ∀ t ∈ ts, I64 t) :
    Calls Try.prog 3 #[.slice A m c, .int .i64 k, .slice B n d] w fun e w' => e = .returned (.bool true) ∧ Below w.heap.size w w' := by
  have hmax : m ≤ 9223372036854775807 := by have := hr.le; have := hr.max; unfold maxLen at this; omega
  have hmax2 : n ≤ 9223372036854775807 := by have := hr2.le; have := hr2.max; unfold maxLen at this; omega
  by_cases h1 : 70 < (m : Int)
  · go_enter Try.func3, Try.ntmps3
    go_wp2_with (go_at_call 8; refine (lives09 _).mono ?_; rintro e w2 ⟨rfl, hb2⟩)
    go_ret
    exact ⟨rfl, hb2⟩
  · by_cases h2 : 70 < (n : Int)
    · go_enter Try.func3, Try.ntmps3
      go_wp2_with (go_at_call 8; refine (lives09 _).mono ?_; rintro e w2 ⟨rfl, hb2⟩)
      go_ret
      exact ⟨rfl, hb2⟩
    · have HN1 := Lib.hid (fun W h h2 => mneed A m c os B n d ts W h h2 hti)
      have HN2 := Lib.hid (fun W h h2 => rneed A m c os B n d ts W h h2 hti)
      go_enter Try.func3, Try.ntmps3
      go_wp2_with fail
      refine (HN1.out _ hr hr2).mono ?_
      rintro e w1 ⟨⟨v1, u1, rfl, hn1, hn2, -⟩, hb1⟩
      obtain ⟨A1, m1, c1, rfl, hm1, r1⟩ := own_open hn1
      obtain ⟨B1, n1, d1, rfl, hn1', r2⟩ := own_open hn2
      clear hn1 hn2
      go_wp2_with fail
      refine (HN2.out _ (hr.below hb1) (hr2.below hb1)).mono ?_
      rintro e w2 ⟨⟨v2, u2, rfl, hn3, hn4, -⟩, hb2⟩
      obtain ⟨A2, m2, c2, rfl, hm2, r3⟩ := own_open hn3
      obtain ⟨B2, n2, d2, rfl, hn2', r4⟩ := own_open hn4
      clear hn3 hn4 hm1 hn1' hm2 hn2' HN1 HN2
      have r1 := r1.below hb2
      have r2 := r2.below hb2
      have hB := below_tr hb1 hb2
      generalize (needV os ts).1 = x at r1 r3
      generalize (needV os ts).2 = y at r2 r4
      have hq : ∃ q, goodB os k = q := ⟨_, rfl⟩
      obtain ⟨q, hq⟩ := hq
      have HG1 := Lib.hid (fun W h => mgood A m c os k W h)
      have HG2 := Lib.hid (fun W h => rgood A m c os k W h)
      have HC1 := Lib.hid (fun W h => mcount A m c os k W h)
      have HC2 := Lib.hid (fun W h => rcount A m c os k W h)
      rw [hq] at HG1 HG2
      have hqq : (q == q) = true := by simp
      clear hq
      generalize countV os k = z at HC1 HC2
      go_wp2_with fail
      refine (HG1.out _ (hr.below hB)).mono ?_
      rintro e w3 ⟨rfl, hb3⟩
      go_wp2_with fail
      refine (HG2.out _ (hr.below (below_tr hB hb3))).mono ?_
      rintro e w3' ⟨rfl, rfl⟩
      go_wp2_with fail
      refine (HC1.out _ (hr.below (below_tr hB hb3))).mono ?_
      rintro e w4 ⟨⟨C1, l1, e1, rfl, s1, -⟩, hb4⟩
      go_wp2_with fail
      refine (HC2.out _ (hr.below (below_tr (below_tr hB hb3) hb4))).mono ?_
      rintro e w5 ⟨⟨C2, l2, e2, rfl, s2, -⟩, hb5⟩
      go_wp2_with fail
      refine (ints03 _ _ _ z _ _ _ z _ (s1.below hb5) s2).mono ?_
      rintro e w6 ⟨rfl, hb6⟩
      simp only [decide_true]
      have hB6 := below_tr (below_tr (below_tr hb3 hb4) hb5) hb6
      clear s1 s2 hb3 hb4 hb5
      go_wp2_with fail
      refine (ints03 _ _ _ x _ _ _ x _ (r1.below hB6) (r3.below hB6)).mono ?_
      rintro e w7 ⟨rfl, hb7⟩
      simp only [decide_true]
      go_wp2_with fail
      refine (ints03 _ _ _ y _ _ _ y _ (r2.below (below_tr hB6 hb7)) (r4.below (below_tr hB6 hb7))).mono ?_
      rintro e w8 ⟨rfl, hb8⟩
      simp only [decide_true]
      go_wp2_with fail
      refine (lives09 _).mono ?_
      rintro e w9 ⟨rfl, hb9⟩
      go_wp2
      go_ret
      exact ⟨rfl, below_tr (below_tr (below_tr (below_tr hB hB6) hb7) hb8) hb9⟩
end Go.Proofs.Ytjpclnmohemjlaa
