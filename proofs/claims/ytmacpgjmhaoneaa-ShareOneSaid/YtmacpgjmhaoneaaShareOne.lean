/- The law ShareOne, walked. -/
import Derived.Test.YtmacpgjmhaoneaaShareMore
namespace Go.Proofs.Ytmacpgjmhaoneaa
open Go.RowKit
set_option maxRecDepth 100000 in
set_option maxHeartbeats 4000000 in
theorem one_lives (cores : Int) (A : Option Addr) (n c : Nat) (l : List Cl) (start : Int) (w : World) (hr : Rds w 2 A n c (cls l)) (h : 64 < n ∨ cores < 0 ∨ 63 < cores ∨ goodC l = false) :
    Calls Try.prog 7 #[.int .i64 cores, .slice A n c, .int .i64 start] w fun e w' => e = .returned (.bool true) ∧ Below w.heap.size w w' := by
  have HG := Lib.hid (good08 A n c l w hr)
  have H : Hid (64 < n ∨ cores < 0 ∨ 63 < cores ∨ goodC l = false) := h
  generalize goodC l = g at *
  clear h hr
  by_cases h1 : 64 < (n : Int)
  · go_enter Try.func7, Try.ntmps7
    go_wp2_with (go_at_call 8; refine (lives08 _).mono ?_; rintro e w1 ⟨rfl, hb1⟩)
    go_ret
    exact ⟨rfl, hb1⟩
  · by_cases h2 : cores < 0
    · go_enter Try.func7, Try.ntmps7
      go_wp2_with (go_at_call 8; refine (lives08 _).mono ?_; rintro e w1 ⟨rfl, hb1⟩)
      go_ret
      exact ⟨rfl, hb1⟩
    · by_cases h3 : 63 < cores
      · go_enter Try.func7, Try.ntmps7
        go_wp2_with (go_at_call 8; refine (lives08 _).mono ?_; rintro e w1 ⟨rfl, hb1⟩)
        go_ret
        exact ⟨rfl, hb1⟩
      · have hg : g = false := by rcases H.out with h | h | h | h <;> first | exact h | (exfalso; omega)
        subst hg
        go_enter Try.func7, Try.ntmps7
        go_wp2_with (first | (go_at_call 13; (with_reducible refine HG.out.mono ?_); rintro e w1 ⟨rfl, hb1⟩) | (go_at_call 8; refine (lives08 _).mono ?_; rintro e w2 ⟨rfl, hb2⟩))
        go_ret
        exact ⟨rfl, below_tr hb1 hb2⟩
theorem bestI_lo (o : Option Nat) : -1 ≤ bestI o := by
  cases o with
  | none => simp [bestI]
  | some b => simp only [bestI]; omega
theorem bestI_none : bestI none = -1 := rfl
theorem bestI_some (b : Nat) : bestI (some b) = (b : Int) := rfl
theorem one_get {l : List Cl} {order : List Nat} {xs : List Int} (ho : ∀ i ∈ order, i < xs.length) (i : Nat) (_ : i < xs.length) : (oneC l order xs).getD i 0 = xs.getD i 0 + if (i : Int) = bestI (nextC l xs order) then 1 else 0 := by
  unfold oneC
  cases h : nextC l xs order with
  | none =>
    show xs.getD i 0 = _
    rw [if_neg (by rw [bestI_none]; omega)]; omega
  | some b =>
    have hb := ho b (nextC_mem l xs order b h).1
    show (incC xs b).getD i 0 = _
    unfold incC
    rw [getD_set xs b i _ hb]
    by_cases hi : i = b
    · subst hi; rw [if_pos rfl, if_pos (bestI_some i).symm]
    · rw [if_neg hi, if_neg (by rw [bestI_some]; omega)]; omega
theorem one_ne {l : List Cl} {order : List Nat} {xs : List Int} (ho : ∀ i ∈ order, i < xs.length) (h : 0 ≤ bestI (nextC l xs order)) : decide (oneC l order xs = xs) = false := by
  rw [decide_eq_false_iff_not]
  intro e
  cases hn : nextC l xs order with
  | none => rw [hn] at h; simp [bestI] at h
  | some b =>
    have hb := ho b (nextC_mem l xs order b hn).1
    have := one_get (l := l) ho b hb
    rw [e, hn, if_pos (bestI_some b).symm] at this
    omega
set_option maxRecDepth 100000 in
set_option maxHeartbeats 4000000 in
theorem one_walk (cores : Int) (A : Option Addr) (n c : Nat) (l : List Cl) (start : Int) (w : World) (hr : Rds w 2 A n c (cls l)) (hn : n ≤ 64) (hc0 : 0 ≤ cores) (hc1 : cores ≤ 63) (hg : goodC l = true) (hs : I64 start) :
    Calls Try.prog 7 #[.int .i64 cores, .slice A n c, .int .i64 start] w fun e w' => e = .returned (.bool true) ∧ Below w.heap.size w w' := by
  have HG := Lib.hid (good08 A n c l w hr)
  rw [hg] at HG
  have hll := cls_len hr
  obtain ⟨g1, g2⟩ := goodC_iff.1 hg
  have HD1 := Lib.hid (fun W h => hdivideI A n c l cores start W h hg hc0 (by omega) hs)
  have HD2 := Lib.hid (fun W h => hdivideI A n c l (cores + 1) start W h hg (by omega) (by omega) hs)
  have hP := parted (l := l) (order := roundC l.length (atN start n)) (fun c hc => (g2 c hc).2.2.1) (fun i hi => roundC_lt hi) cores.toNat
  rw [show divC l (roundC l.length (atN start n)) cores.toNat (List.replicate l.length 0) = divideC cores.toNat l (atN start n) from rfl] at hP
  have hy : divideC (cores + 1).toNat l (atN start n) = oneC l (roundC l.length (atN start n)) (divideC cores.toNat l (atN start n)) := by
    unfold divideC
    rw [show (cores + 1).toNat = cores.toNat + 1 by omega, divC_succ]
  have HF1 := Lib.hid (fun B W h1 h2 => hfair cores A B n c n l (divideC cores.toNat l (atN start n)) start W h1 h2 hg hc0 (by omega) hs)
  rw [show decide (divideC cores.toNat l (atN start n) = divideC cores.toNat l (atN start n)) = true by simp] at HF1
  have HF2 := Lib.hid (fun B W h1 h2 => hfair (cores + 1) A B n c n l (divideC cores.toNat l (atN start n)) start W h1 h2 hg (by omega) (by omega) hs)
  rw [hy] at HF2 HD2
  have hlx := hP.len
  have hall := getD_all (xs := divideC cores.toNat l (atN start n)) (lo := 0) (hi := 64) (fun i hi => by have := hP.in_ i (by omega); have := (g2 _ (getDm (l := l) (i := i) (by omega))).2.2.2; omega)
  have HNX := Lib.hid (fun B W h1 h2 => hNext A B n c n l (divideC cores.toNat l (atN start n)) start W h1 h2 hg hall hs)
  rw [← hll] at HNX
  have hsum := hP.sum
  have HT := Lib.hid (fun B W h => htotal B n n (divideC cores.toNat l (atN start n)) W h hall hn)
  rw [hll] at hy HNX hsum HF2 HD2
  have hrl : ∀ i ∈ roundC n (atN start n), i < (divideC cores.toNat l (atN start n)).length := fun i hi => by rw [hlx, hll]; exact roundC_lt hi
  have hget := one_get (l := l) hrl
  have hne := one_ne (l := l) hrl
  have hlo := bestI_lo (nextC l (divideC cores.toNat l (atN start n)) (roundC n (atN start n)))
  have hs2 : 0 ≤ bestI (nextC l (divideC cores.toNat l (atN start n)) (roundC n (atN start n))) → (divideC cores.toNat l (atN start n)).sum = cores := by
    intro h
    rcases hsum with h1 | ⟨_, h1⟩
    · rw [h1]; omega
    · rw [h1] at h; simp [bestI] at h
  have hyl : (oneC l (roundC n (atN start n)) (divideC cores.toNat l (atN start n))).length = n := by
    unfold oneC
    split
    · omega
    · rw [incC_length]; omega
  clear hsum hP hy
  generalize oneC l (roundC n (atN start n)) (divideC cores.toNat l (atN start n)) = ys at *
  generalize bestI (nextC l (divideC cores.toNat l (atN start n)) (roundC n (atN start n))) = nb at *
  generalize divideC cores.toNat l (atN start n) = xs at *
  have HGET := Lib.hid hget
  have HNE := Lib.hid hne
  have HALL := Lib.hid hall
  have HS2 := Lib.hid hs2
  have HYL := Lib.hid hyl
  have HXL := Lib.hid hlx
  clear g1 g2 hg hs hget hne hall hs2 hyl hlx hrl
  go_enter Try.func7, Try.ntmps7
  go_wp2_with (first | (go_at_call 13; (with_reducible refine HG.out.mono ?_); rintro e w1 ⟨rfl, hb1⟩; have hr1 := hr.below hb1) | (go_at_call 10; (with_reducible refine (HD1.out _ hr1).mono ?_); rintro e w2 ⟨⟨g, rfl, ho2⟩, hb2⟩; have hx2 := (own_rds' ho2).2; clear ho2; generalize (⟨g, 0, none⟩ : Addr) = xa at hx2 ⊢; have hr2 := hr1.below hb2) | (go_at_call 10; (with_reducible refine (HD2.out _ hr2).mono ?_); rintro e w3 ⟨⟨g', rfl, ho3⟩, hb3⟩; have hy3 := (own_rds' ho3).2; clear ho3; generalize (⟨g', 0, none⟩ : Addr) = ya at hy3 ⊢; have hr3 := hr2.below hb3; have hx3 := hx2.below hb3) | (go_at_call 15; (with_reducible refine (HNX.out _ _ hr3 hx3).mono ?_); rintro e w4 ⟨rfl, hb4⟩))
  have hr4 := hr3.below hb4
  have hx4 := hx3.below hb4
  have hy4 := hy3.below hb4
  have hbw := below_tr hb1 (below_tr hb2 (below_tr hb3 hb4))
  clear hr1 hr2 hr3 hx2 hx3 hy3 hb1 hb2 hb3 hb4 hr
  go_loopw [56] (fun i wr => ∃ k : Nat, k ≤ n ∧ i = .int .i64 k ∧ Below w4.heap.size w4 wr) (fun i _ => n - (intOf i).toNat)
  case atStart => exact ⟨0, Nat.zero_le _, rfl, Below.refl _ _⟩
  case round =>
    obtain ⟨k, hk, rfl, hbr⟩ := hrel
    have hx5 := hx4.below hbr
    have hy5 := hy4.below hbr
    have hr5 := hr4.below hbr
    by_cases hlt : k < n
    · have hkx : k < xs.length := by rw [HXL.out]; omega
      have hcx := int_read hx5 (i := k) hkx
      have hcy := int_read hy5 (i := k) (by rw [HYL.out]; omega)
      have hg := HGET.out k hkx
      have hxk := HALL.out (xs.getD k 0) (List.mem_of_getElem? (getD_of hkx))
      clear hkx
      generalize xs.getD k 0 = x at *
      obtain ⟨x1, x2⟩ := hxk
      by_cases hkb : (k : Int) = nb
      · rw [if_pos hkb] at hg
        rw [hg] at hcy
        have hs2 := HS2.out (by omega)
        rw [hs2] at HT
        have hEq : ((k : Int) == nb) = true := by simp [hkb]
        have hd : ((x + 1) != (x + 1)) = false := by simp
        have HKB := Lib.hid hkb
        clear hg hkb hs2
        go_wp2_with (go_at_call 16; (with_reducible refine (HT.out _ _ hx5).mono ?_); rintro e w6 ⟨rfl, hb6⟩; have hcy6 := cell_below hb6 hcy; have hcx6 := cell_below hb6 hcx)
        go_roundw
        case rel => exact ⟨k + 1, by omega, by go_num, below_tr hbr hb6⟩
        case measure => simp [intOf]; omega
      · rw [if_neg hkb, Int.add_zero] at hg
        rw [hg] at hcy
        have hEq : ((k : Int) == nb) = false := by simp [hkb]
        clear hg
        go_wp2
        go_roundw
        case rel => exact ⟨k + 1, by omega, by go_num, hbr⟩
        case measure => simp [intOf]; omega
    · obtain rfl : k = n := by omega
      have hbf := below_tr hbw hbr
      by_cases hnb : nb < 0
      · go_wp2_with (first | (go_at_call 17; (with_reducible refine (HF1.out _ _ hr5 hx5).mono ?_); rintro e w6 ⟨rfl, hb6⟩) | (go_at_call 8; refine (lives08 _).mono ?_; rintro e w7 ⟨rfl, hb7⟩))
        go_ret
        exact ⟨rfl, below_tr hbf (below_tr hb6 hb7)⟩
      · have hne := HNE.out (by omega)
        rw [hne] at HF2
        clear hne
        go_wp2_with (first | (go_at_call 17; (with_reducible refine (HF1.out _ _ hr5 hx5).mono ?_); rintro e w6 ⟨rfl, hb6⟩) | (go_at_call 17; (with_reducible refine (HF2.out _ _ (hr5.below hb6) (hx5.below hb6)).mono ?_); rintro e w7 ⟨rfl, hb7⟩) | (go_at_call 8; refine (lives08 _).mono ?_; rintro e w8 ⟨rfl, hb8⟩))
        go_ret
        exact ⟨rfl, below_tr hbf (below_tr hb6 (below_tr hb7 hb8))⟩
end Go.Proofs.Ytmacpgjmhaoneaa
