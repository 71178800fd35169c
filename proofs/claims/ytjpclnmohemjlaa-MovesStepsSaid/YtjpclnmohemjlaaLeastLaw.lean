/- The law MovesLeast. -/
import Derived.Test.YtjpclnmohemjlaaLeast
namespace Go.Proofs.Ytjpclnmohemjlaa
open Go.RowKit
theorem need_len (os ts : List Int) : (needV os ts).2.length = (needV os ts).1.length := by
  unfold needV
  split
  · simp [moreL, lackL]
  · rfl
/-- The sum of the first k of both. -/
def sum2 (a b : List Int) (k : Nat) : Int := sumI (a.take k) + sumI (b.take k)
theorem sum2_zero (a b : List Int) : sum2 a b 0 = 0 := rfl
theorem sum2_succ (a b : List Int) (k : Nat) (x y : Int) (hx : a[k]? = some x) (hy : b[k]? = some y) : sum2 a b (k + 1) = sum2 a b k + (x + y) := by
  obtain ⟨h1, rfl⟩ := List.getElem?_eq_some_iff.1 hx
  obtain ⟨h2, rfl⟩ := List.getElem?_eq_some_iff.1 hy
  unfold sum2
  rw [List.take_succ_eq_append_getElem h1, List.take_succ_eq_append_getElem h2, sumI_append, sumI_append]
  simp only [sumI]
  omega
theorem sum2_all (a b : List Int) (k : Nat) (h : a.length ≤ k) (h2 : b.length ≤ k) : sum2 a b k = sumI a + sumI b := by
  unfold sum2
  rw [List.take_of_length_le h, List.take_of_length_le h2]
set_option maxRecDepth 100000 in
set_option maxHeartbeats 8000000 in
theorem leastLaw (A : Option Addr) (m c : Nat) (os : List Int) (B : Option Addr) (n d : Nat) (ts : List Int) (w : World) (hr : Rds w 1 A m c (nums .i64 os)) (hr2 : Rds w 1 B n d (nums .i64 ts)) (hti : ∀ t ∈ ts, I64 t) :
    Calls Try.prog 6 #[.slice A m c, .slice B n d] w fun e w' => e = .returned (.bool true) ∧ Below w.heap.size w w' := by
  have hmax2 : n ≤ 9223372036854775807 := by have := hr2.le; have := hr2.max; unfold maxLen at this; omega
  have HN := Lib.hid (nums_inj_len hr)
  have HM := Lib.hid (nums_inj_len hr2)
  by_cases h2 : 64 < (n : Int)
  · go_enter Try.func6, Try.ntmps6
    go_wp2_with (go_at_call 8; refine (lives09 _).mono ?_; rintro e w2 ⟨rfl, hb2⟩)
    go_ret
    exact ⟨rfl, hb2⟩
  · have HG := Lib.hid (rgood A m c os n w hr)
    cases hg : goodB os n with
    | false =>
      rw [hg] at HG
      clear hg
      go_enter Try.func6, Try.ntmps6
      go_wp2_with (first | (go_at_call 12; refine HG.out.mono ?_; rintro e w1 ⟨rfl, rfl⟩) | (go_at_call 8; refine (lives09 _).mono ?_; rintro e w2 ⟨rfl, hb2⟩))
      go_ret
      exact ⟨rfl, hb2⟩
    | true =>
      rw [hg] at HG
      have hg9 := goodB_iff.1 hg
      have hm64 : m ≤ 64 := by rw [← HN.out]; exact hg9.len
      clear hg
      have H1 := Lib.hid (fun W h h2 => mplan A m c os B n d ts W h h2 hti)
      have H2 := Lib.hid (fun W h h2 => mneed A m c os B n d ts W h h2 hti)
      have hnl := need_len os ts
      have hpl8 := planV_length os ts
      by_cases hre : (rightB os ts && enoughB os.length ts) = true
      · rw [Bool.and_eq_true] at hre
        have hR := rightB_iff.1 hre.1
        have hE := hre.2
        have hml := moreL_bd (n := ts.length) hg9.len hR.pos
        have hle := enough_le hE hR.pos
        have hll := lackL_bd (os := os) (n := ts.length) (fun t ht => ⟨hR.pos t ht, Int.le_trans (hle t ht) (by have := hg9.len; omega)⟩)
        have hlst := plan_least hR hE
        have hagn := plan_again hR hE
        have hfar : farV os ts = sumI (needV os ts).1 + sumI (needV os ts).2 := by rw [plan_need hR]; rfl
        have hl64 : (needV os ts).1.length ≤ 64 := by
          rw [plan_need hR]
          simp only [moreL, List.length_zipWith, cntL_length, Nat.min_self]
          rw [HM.out]
          omega
        rw [hfar] at hlst
        have HPA := Lib.hid (fun W A m c h h2 => mplan A m c (applyV os (planV os ts)) B n d ts W h h2 hti)
        rw [hagn] at HPA
        have e1 : (needV os ts).1 = moreL (cntL os ts.length) ts := by rw [plan_need hR]
        have e2 : (needV os ts).2 = lackL (cntL os ts.length) ts := by rw [plan_need hR]
        rw [← e1] at hml
        rw [← e2] at hll
        clear e1 e2
        unfold Needs at H2
        generalize (needV os ts).1 = more at H2 hml hlst hnl hl64
        generalize (needV os ts).2 = lack at H2 hll hlst hnl
        generalize planV os ts = l at H1 hlst HPA hpl8
        have HLST := Lib.hid hlst
        have HMLB := Lib.hid hml
        have HLLB := Lib.hid hll
        have HNL := Lib.hid hnl
        clear hre hR hE hle hagn hfar hlst hml hll hnl hg9
        go_enter Try.func6, Try.ntmps6
        go_wp2_with (go_at_call 12; refine HG.out.mono ?_; rintro e w1 ⟨rfl, rfl⟩)
        refine (H1.out _ hr hr2).mono ?_
        rintro e1 w1 ⟨⟨v1, rfl, hn1⟩, hb1⟩
        obtain ⟨A1, m1, c1, rfl, hm1, r1⟩ := own_open hn1
        have hm1l : m1 ≤ 8192 := by rw [hm1.out]; exact hpl8
        clear hn1
        go_wp2_with fail
        refine (H2.out _ (hr.below hb1) (hr2.below hb1)).mono ?_
        rintro e5 w5 ⟨⟨v5, u5, rfl, hn5, hn5', -⟩, hb5⟩
        obtain ⟨A5, m5, c5, rfl, hm5, r5⟩ := own_open hn5
        obtain ⟨A6, m6, c6, rfl, hm6, r6⟩ := own_open hn5'
        have hm56 : m6 = m5 := by rw [hm6.out, hm5.out]; exact HNL.out
        subst hm56
        have hB5 := below_tr hb1 hb5
        have r1 := r1.below hb5
        have hm5l : m6 ≤ 64 := by rw [hm5.out]; exact hl64
        clear hn5 hn5' hb5 hb1
        go_wp2
        go_loopw [8, 32] (fun a i wr => ∃ (k : Nat) (s : Int), k ≤ m6 ∧ i = .int .i64 k ∧ a = .int .i64 s ∧ Below w5.heap.size w5 wr ∧ 0 ≤ s ∧ s ≤ 128 * (k : Int) ∧ Hid (s = sum2 more lack k)) (fun _ i _ => m6 - (intOf i).toNat)
        case atStart => exact ⟨0, 0, Nat.zero_le _, rfl, rfl, Below.refl _ _, Int.le_refl _, by omega, rfl⟩
        case round =>
          obtain ⟨k, s, hk, rfl, rfl, hb, hs0, hs1, HS⟩ := hrel
          by_cases hlt : k < m6
          · have hkx : k < more.length := by rw [← hm5.out]; exact hlt
            have hky : k < lack.length := by rw [HNL.out]; exact hkx
            obtain ⟨ad5, rfl⟩ := r5.some_ (by omega)
            obtain ⟨ad6, rfl⟩ := r6.some_ (by omega)
            have hg1 : more[k]? = some more[k] := List.getElem?_eq_getElem hkx
            have hg2 : lack[k]? = some lack[k] := List.getElem?_eq_getElem hky
            obtain ⟨k1, k2⟩ := HMLB.out more[k] (List.getElem_mem hkx)
            obtain ⟨k3, k4⟩ := HLLB.out lack[k] (List.getElem_mem hky)
            have hc5 := (r5.below hb).cell ad5 rfl k _ (nums_get .i64 more k hkx)
            have hc6 := (r6.below hb).cell ad6 rfl k _ (nums_get .i64 lack k hky)
            generalize more[k] = x at hg1 k1 k2 hc5
            generalize lack[k] = y at hg2 k3 k4 hc6
            have HX := Lib.hid (sum2_succ more lack k x y hg1 hg2)
            have hi1 : (k : Int) < (m6 : Int) := by omega
            have hw1 : IntKind.i64.wrap (x + y) = x + y := IntWalk.i64_in _ (by omega)
            have hw2 : IntKind.i64.wrap (s + (x + y)) = s + (x + y) := IntWalk.i64_in _ (by omega)
            clear hg1 hg2
            go_wp2
            go_quiet (fail)
            go_wp2
            go_roundw
            case rel => exact ⟨k + 1, s + (x + y), by omega, by go_num, rfl, below_dr hb _, by omega, by omega, by show _ = _; rw [HX.out, ← HS.out]⟩
            case measure => simp [intOf]; omega
          · have hkm : k = m6 := by omega
            subst hkm
            have hsf : s = sumI more + sumI lack := by rw [HS.out]; exact sum2_all _ _ _ (by rw [hm5.out]; exact Nat.le_refl _) (by rw [HNL.out, hm5.out]; exact Nat.le_refl _)
            have hls : (m1 : Int) ≤ s := by rw [hsf, hm1.out]; exact HLST.out
            have hbW := below_then hB5 hB5.size hb
            clear hsf HS
            rcases Nat.eq_zero_or_pos m1 with h0 | h0
            · have hz : ((m1 : Int) == 0) = true := by simp [h0]
              subst h0
              go_wp2_with (go_at_call 8; refine (lives09 _).mono ?_; rintro e w2 ⟨rfl, hb2⟩)
              go_ret
              exact ⟨rfl, below_tr hbW hb2⟩
            · have hz : ((m1 : Int) == 0) = false := by simp; omega
              go_wp2_with fail
              refine (mapply A m c os A1 m1 c1 l _ (hr.below hbW) (r1.below hb) (by omega)).mono ?_
              rintro e2 w8 ⟨⟨v2, rfl, hn2⟩, hb2⟩
              obtain ⟨A2, m2, c2, rfl, hm2, r2⟩ := own_open hn2
              have hB8 := below_tr hbW hb2
              clear hn2
              go_wp2_with fail
              refine (HPA.out _ A2 m2 c2 r2 (hr2.below hB8)).mono ?_
              rintro e3 w9 ⟨⟨v3, rfl, hn3⟩, hb3⟩
              obtain ⟨A3, m3, c3, rfl, hm3, r3⟩ := own_open hn3
              obtain rfl : m3 = 0 := hm3.out
              clear hn3
              go_wp2_with (go_at_call 8; refine (lives09 _).mono ?_; rintro e w2 ⟨rfl, hb2⟩)
              go_ret
              exact ⟨rfl, below_tr (below_tr hB8 hb3) ‹_›⟩
      · have hpe : planV os ts = [] := by unfold planV; rw [if_neg hre]
        rw [hpe] at H1
        unfold Needs at H2
        generalize (needV os ts).1 = more at H2 hnl
        generalize (needV os ts).2 = lack at H2 hnl
        have HNL := Lib.hid hnl
        clear hre hpe hpl8 hnl hg9
        go_enter Try.func6, Try.ntmps6
        go_wp2_with (go_at_call 12; refine HG.out.mono ?_; rintro e w1 ⟨rfl, rfl⟩)
        refine (H1.out _ hr hr2).mono ?_
        rintro e1 w1 ⟨⟨v1, rfl, hn1⟩, hb1⟩
        obtain ⟨A1, m1, c1, rfl, hm1, r1⟩ := own_open hn1
        obtain rfl : m1 = 0 := hm1.out
        clear hn1
        go_wp2_with fail
        refine (H2.out _ (hr.below hb1) (hr2.below hb1)).mono ?_
        rintro e5 w5 ⟨⟨v5, u5, rfl, hn5, hn5', -⟩, hb5⟩
        obtain ⟨A5, m5, c5, rfl, hm5, r5⟩ := own_open hn5
        obtain ⟨A6, m6, c6, rfl, hm6, r6⟩ := own_open hn5'
        have hm56 : m6 = m5 := by rw [hm6.out, hm5.out]; exact HNL.out
        subst hm56
        have hB5 := below_tr hb1 hb5
        have hmm : m6 ≤ 9223372036854775807 := by have := r5.le; have := r5.max; unfold maxLen at this; omega
        clear hn5 hn5' hb5 hb1 r1
        go_wp2
        go_loopw [8, 32] (fun a i wr => ∃ (k : Nat) (s : Int), k ≤ m6 ∧ i = .int .i64 k ∧ a = .int .i64 s ∧ Below w5.heap.size w5 wr) (fun _ i _ => m6 - (intOf i).toNat)
        case atStart => exact ⟨0, 0, Nat.zero_le _, rfl, rfl, Below.refl _ _⟩
        case round =>
          obtain ⟨k, s, hk, rfl, rfl, hb⟩ := hrel
          by_cases hlt : k < m6
          · have hkx : k < more.length := by rw [← hm5.out]; exact hlt
            have hky : k < lack.length := by rw [HNL.out]; exact hkx
            obtain ⟨ad5, rfl⟩ := r5.some_ (by omega)
            obtain ⟨ad6, rfl⟩ := r6.some_ (by omega)
            have hc5 := (r5.below hb).cell ad5 rfl k _ (nums_get .i64 more k hkx)
            have hc6 := (r6.below hb).cell ad6 rfl k _ (nums_get .i64 lack k hky)
            generalize more[k] = x at hc5
            generalize lack[k] = y at hc6
            have hi1 : (k : Int) < (m6 : Int) := by omega
            go_wp2
            go_quiet (fail)
            go_wp2
            go_roundw
            case rel => exact ⟨k + 1, _, by omega, by go_num, rfl, below_dr hb _⟩
            case measure => simp [intOf]; omega
          · have hbW := below_then hB5 hB5.size hb
            go_wp2_with (go_at_call 8; refine (lives09 _).mono ?_; rintro e w2 ⟨rfl, hb2⟩)
            go_ret
            exact ⟨rfl, below_tr hbW hb2⟩
end Go.Proofs.Ytjpclnmohemjlaa
