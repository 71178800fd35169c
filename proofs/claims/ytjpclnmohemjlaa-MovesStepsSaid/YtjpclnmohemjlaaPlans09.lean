/- The law MovesPlans. -/
import Derived.Test.YtjpclnmohemjlaaCounts09
import Derived.Test.YtjpclnmohemjlaaApply09
import Derived.Test.YtjpclnmohemjlaaRefPlan09
namespace Go.Proofs.Ytjpclnmohemjlaa
open Go.RowKit
theorem movesC_length (os : List Int) : ∀ (cs ps : List Int), (movesC os cs ps).length ≤ cs.length
  | [], _ => Nat.le_refl _
  | c :: cs, ps => by
    have := movesC_length os cs ps.tail
    simp only [movesC, List.length_append, List.length_cons]
    split <;> simp <;> omega
theorem moreC_length (os : List Int) : ∀ (ks : List Int) (i : Nat) (out : List Int), (∀ k ∈ ks, k ≤ 64) → (moreC os i ks out).length ≤ out.length + 64 * ks.length
  | [], _, out, _ => by simp [moreC]
  | k :: ks, i, out, h => by
    have h1 := moreC_length os ks (i + 1) (downC os ((i : Int) + 1) (out.length + k.toNat) os.length out) (fun k hk => h k (by simp [hk]))
    have h2 := downC_length os ((i : Int) + 1) (out.length + k.toNat) os.length out
    have h3 := h k (by simp)
    simp only [moreC, List.length_cons]
    omega
theorem planV_length (os ts : List Int) : (planV os ts).length ≤ 8192 := by
  unfold planV
  split
  · rename_i h
    rw [Bool.and_eq_true] at h
    obtain ⟨⟨g1, g2, g3, g4⟩, g5⟩ := rightB_iff.1 h.1
    refine Nat.le_trans (movesC_length _ _ _) ?_
    have hnv : (needV os ts).1 = moreL (cntL os ts.length) ts := by unfold needV; rw [h.1]; rfl
    rw [hnv]
    have h1 := moreC_length os (moreL (cntL os ts.length) ts) 0 (freeC os os.length) (fun k hk => (moreL_bd g1 g5 k hk).2)
    have h2 := freeC_length os os.length
    have h3 : (moreL (cntL os ts.length) ts).length = ts.length := by simp [moreL, cntL_length]
    unfold coresV
    omega
  · simp
set_option maxRecDepth 100000 in
set_option maxHeartbeats 4000000 in
theorem plansLaw (A : Option Addr) (m c : Nat) (os : List Int) (B : Option Addr) (n d : Nat) (ts : List Int) (C : Option Addr) (p e : Nat) (l : List Mv) (w : World) (hr : Rds w 1 A m c (nums .i64 os)) (hr2 : Rds w 1 B n d (nums .i64 ts)) (hr3 : Rds w 3 C p e (mvs l)) (hti : ∀ t ∈ ts, I64 t) :
    Calls Try.prog 4 #[.slice A m c, .slice B n d, .slice C p e] w fun e w' => e = .returned (.bool true) ∧ Below w.heap.size w w' := by
  have hmax : m ≤ 9223372036854775807 := by have := hr.le; have := hr.max; unfold maxLen at this; omega
  have hmax2 : n ≤ 9223372036854775807 := by have := hr2.le; have := hr2.max; unfold maxLen at this; omega
  have hmax3 : p ≤ 9223372036854775807 := by have := hr3.le; have := hr3.max; unfold maxLen at this; omega
  by_cases h1 : 70 < (m : Int)
  · go_enter Try.func4, Try.ntmps4
    go_wp2_with (go_at_call 8; refine (lives09 _).mono ?_; rintro e w2 ⟨rfl, hb2⟩)
    go_ret
    exact ⟨rfl, hb2⟩
  · by_cases h2 : 70 < (n : Int)
    · go_enter Try.func4, Try.ntmps4
      go_wp2_with (go_at_call 8; refine (lives09 _).mono ?_; rintro e w2 ⟨rfl, hb2⟩)
      go_ret
      exact ⟨rfl, hb2⟩
    · by_cases h3 : 200 < (p : Int)
      · go_enter Try.func4, Try.ntmps4
        go_wp2_with (go_at_call 8; refine (lives09 _).mono ?_; rintro e w2 ⟨rfl, hb2⟩)
        go_ret
        exact ⟨rfl, hb2⟩
      · have hpl : (planV os ts).length ≤ 100000 := Nat.le_trans (planV_length os ts) (by decide)
        have H1 := Lib.hid (fun W h h2 => mplan A m c os B n d ts W h h2 hti)
        have H2 := Lib.hid (fun W h h2 => rplan A m c os B n d ts W h h2 hti)
        generalize planV os ts = x at hpl H1 H2
        go_enter Try.func4, Try.ntmps4
        go_wp2_with fail
        refine (H1.out _ hr hr2).mono ?_
        rintro e1 w1 ⟨⟨v1, rfl, hn1⟩, hb1⟩
        obtain ⟨A1, m1, c1, rfl, hm1, r1⟩ := own_open hn1
        have hml1 : m1 ≤ 100000 := by rw [hm1.out]; exact hpl
        clear hn1
        go_wp2_with fail
        refine (lplain _ _ _ _ _ r1 hml1).mono ?_
        rintro e2 w2 ⟨⟨v2, rfl, hn2⟩, hb2⟩
        obtain ⟨A2, m2, c2, rfl, hm2, r2⟩ := own_open hn2
        have hB2 := below_tr hb1 hb2
        clear hn2 hb2 r1 hm1 hml1
        go_wp2_with fail
        refine (H2.out _ (hr.below hB2) (hr2.below hB2)).mono ?_
        rintro e3 w3 ⟨⟨v3, rfl, hn3⟩, hb3⟩
        obtain ⟨A3, m3, c3, rfl, hm3, r3⟩ := own_open hn3
        have hB3 := below_tr hB2 hb3
        have r2' := r2.below hb3
        clear hn3 hb3 r2 hB2 hb1
        go_wp2_with fail
        refine (rsame _ _ _ x _ _ _ x _ r2' r3).mono ?_
        rintro e4 w4 ⟨rfl, hb4⟩
        simp only [decide_true]
        have hB4 := below_tr hB3 hb4
        clear r2' r3 hB3 hb4
        go_wp2_with fail
        refine (mapply A m c os C p _ l _ (hr.below hB4) (hr3.below hB4) (by omega)).mono ?_
        rintro e5 w5 ⟨⟨v5, rfl, hn5⟩, hb5⟩
        obtain ⟨A5, m5, c5, rfl, hm5, r5⟩ := own_open hn5
        have hB5 := below_tr hB4 hb5
        clear hn5 hb5 hB4
        go_wp2_with fail
        refine (lplain _ _ _ l _ (hr3.below hB5) (by omega)).mono ?_
        rintro e6 w6 ⟨⟨v6, rfl, hn6⟩, hb6⟩
        obtain ⟨A6, m6, c6, rfl, hm6, r6⟩ := own_open hn6
        have hB6 := below_tr hB5 hb6
        have r5' := r5.below hb6
        clear hn6 hb6 hB5 r5
        go_wp2_with fail
        refine (rapply A m c os _ _ _ l _ (hr.below hB6) r6 (by omega)).mono ?_
        rintro e7 w7 ⟨⟨v7, rfl, hn7⟩, hb7⟩
        obtain ⟨A7, m7, c7, rfl, hm7, r7⟩ := own_open hn7
        have hB7 := below_tr hB6 hb7
        have r5 := r5'.below hb7
        clear hn7 hb7 hB6 r5' r6
        generalize applyV os l = z at r5 r7
        go_wp2_with fail
        refine (ints03 _ _ _ z _ _ _ z _ r5 r7).mono ?_
        rintro e8 w8 ⟨rfl, hb8⟩
        simp only [decide_true]
        go_wp2_with fail
        refine (lives09 _).mono ?_
        rintro e9 w9 ⟨rfl, hb9⟩
        go_wp2
        go_ret
        exact ⟨rfl, below_tr (below_tr hB7 hb8) hb9⟩
end Go.Proofs.Ytjpclnmohemjlaa
