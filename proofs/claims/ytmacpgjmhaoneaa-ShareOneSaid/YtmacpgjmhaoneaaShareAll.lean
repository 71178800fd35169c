/- The law ShareAll, walked. -/
import Derived.Test.YtmacpgjmhaoneaaShareLives
namespace Go.Proofs.Ytmacpgjmhaoneaa
open Go.RowKit
set_option maxRecDepth 100000 in
set_option maxHeartbeats 4000000 in
theorem all_lives (cores : Int) (A : Option Addr) (n c : Nat) (l : List Cl) (start : Int) (w : World) (hr : Rds w 2 A n c (cls l)) (h : 64 < n ∨ cores < 0 ∨ 64 < cores ∨ goodC l = false) :
    Calls Try.prog 4 #[.int .i64 cores, .slice A n c, .int .i64 start] w fun e w' => e = .returned (.bool true) ∧ Below w.heap.size w w' := by
  have HG := Lib.hid (good08 A n c l w hr)
  have hll := cls_len hr
  have H : Hid (64 < n ∨ cores < 0 ∨ 64 < cores ∨ goodC l = false) := h
  generalize goodC l = g at *
  clear h hr hll
  by_cases h1 : 64 < (n : Int)
  · go_enter Try.func4, Try.ntmps4
    go_wp2_with (go_at_call 8; refine (lives08 _).mono ?_; rintro e w1 ⟨rfl, hb1⟩)
    go_ret
    exact ⟨rfl, hb1⟩
  · by_cases h2 : cores < 0
    · go_enter Try.func4, Try.ntmps4
      go_wp2_with (go_at_call 8; refine (lives08 _).mono ?_; rintro e w1 ⟨rfl, hb1⟩)
      go_ret
      exact ⟨rfl, hb1⟩
    · by_cases h3 : 64 < cores
      · go_enter Try.func4, Try.ntmps4
        go_wp2_with (go_at_call 8; refine (lives08 _).mono ?_; rintro e w1 ⟨rfl, hb1⟩)
        go_ret
        exact ⟨rfl, hb1⟩
      · have hg : g = false := by rcases H.out with h | h | h | h <;> first | exact h | (exfalso; omega)
        subst hg
        go_enter Try.func4, Try.ntmps4
        go_wp2_with (first | (go_at_call 13; (with_reducible refine HG.out.mono ?_); rintro e w1 ⟨rfl, hb1⟩) | (go_at_call 8; refine (lives08 _).mono ?_; rintro e w2 ⟨rfl, hb2⟩))
        go_ret
        exact ⟨rfl, below_tr hb1 hb2⟩
theorem sum_take_succ {xs : List Int} {k : Nat} (h : k < xs.length) : (xs.take (k + 1)).sum = (xs.take k).sum + xs.getD k 0 := by
  rw [List.take_succ_eq_append_getElem h, List.sum_append, show xs.getD k 0 = xs[k] by simp [List.getD_eq_getElem?_getD, h]]
  simp
theorem want_take_succ {l : List Cl} {k : Nat} (h : k < l.length) : wantC (l.take (k + 1)) = wantC (l.take k) + (l.getD k default).demand := by
  rw [List.take_succ_eq_append_getElem h, show l.getD k default = l[k] by simp [List.getD_eq_getElem?_getD, h]]
  unfold wantC
  rw [List.map_append, List.sum_append]
  simp
set_option maxRecDepth 100000 in
set_option maxHeartbeats 4000000 in
theorem all_walk (cores : Int) (A : Option Addr) (n c : Nat) (l : List Cl) (start : Int) (w : World) (hr : Rds w 2 A n c (cls l)) (hn : n ≤ 64) (hc0 : 0 ≤ cores) (hc1 : cores ≤ 64) (hg : goodC l = true) (hs : I64 start) :
    Calls Try.prog 4 #[.int .i64 cores, .slice A n c, .int .i64 start] w fun e w' => e = .returned (.bool true) ∧ Below w.heap.size w w' := by
  have HG := Lib.hid (good08 A n c l w hr)
  rw [hg] at HG
  have hll := cls_len hr
  obtain ⟨g1, g2⟩ := goodC_iff.1 hg
  have hD := Lib.hid (fun W h => hdivideI A n c l cores start W h hg hc0 hc1 hs)
  have hat : atN start n < n ∨ l = [] := by
    rcases Nat.eq_zero_or_pos n with h0 | h0
    · right; exact List.eq_nil_of_length_eq_zero (by omega)
    · left; unfold atN; have := Int.emod_lt_of_pos start (show (0 : Int) < n by omega); have := Int.emod_nonneg start (show (n : Int) ≠ 0 by omega); omega
  have HSUM := Lib.hid (parted_sum (l := l) (a := atN start n) (n := cores.toNat) (fun c hc => (g2 c hc).2.2.1) (by rw [hll]; exact hat))
  have HP := Lib.hid (parted (l := l) (order := roundC l.length (atN start n)) (fun c hc => (g2 c hc).2.2.1) (fun i hi => roundC_lt hi) cores.toNat)
  have hdv : divideC cores.toNat l (atN start n) = divC l (roundC l.length (atN start n)) cores.toNat (List.replicate l.length 0) := rfl
  rw [← hdv] at HP
  have HDM : Hid (∀ i, i < l.length → (l.getD i default).demand ≤ 64) := fun i hi => (g2 _ (getDm hi)).2.2.2
  generalize divideC cores.toNat l (atN start n) = xs at *
  clear g1 g2 hg hs hat hdv
  go_enter Try.func4, Try.ntmps4
  go_wp2_with (first | (go_at_call 13; (with_reducible refine HG.out.mono ?_); rintro e w1 ⟨rfl, hb1⟩) | (go_at_call 10; (with_reducible refine (hD.out _ (hr.below hb1)).mono ?_); rintro e w2 ⟨⟨g, rfl, ho2⟩, hb2⟩; have hx2 := (own_rds' ho2).2; clear ho2; generalize (⟨g, 0, none⟩ : Addr) = xa at hx2 ⊢))
  have hb := below_tr hb1 hb2
  clear hb1 hb2 HG hD
  go_loopw [8, 9, 35] (fun s t i wr => ∃ k : Nat, k ≤ n ∧ i = .int .i64 k ∧ ∃ S T : Int, s = .int .i64 S ∧ t = .int .i64 T ∧ Hid (S = (xs.take k).sum) ∧ Hid (T = wantC (l.take k)) ∧ 0 ≤ S ∧ S ≤ 64 * k ∧ 0 ≤ T ∧ T ≤ 64 * k ∧ Below w2.heap.size w2 wr) (fun _ _ i _ => n - (intOf i).toNat)
  case atStart => exact ⟨0, Nat.zero_le _, rfl, 0, 0, rfl, rfl, by show _ = _; simp, by show _ = _; simp [wantC], by omega, by omega, by omega, by omega, Below.refl _ _⟩
  case round =>
    obtain ⟨k, hk, rfl, S, T, rfl, rfl, HS, HT, hs0, hs1, ht0, ht1, hbr⟩ := hrel
    by_cases hlt : k < n
    · obtain ⟨ad, rfl⟩ := hr.some_ (by omega)
      have hin := HP.out.in_ k (by omega)
      have hdm := HDM.out k (by omega)
      have hlen := HP.out.len
      have hq1 := int_read (hx2.below hbr) (i := k) (by omega)
      obtain ⟨hq2, hq3⟩ := cl_read ((hr.below hb).below hbr) k _ (getDc_of (by omega))
      have HS' := Lib.hid (sum_take_succ (xs := xs) (k := k) (by omega))
      have HT' := Lib.hid (want_take_succ (l := l) (k := k) (by omega))
      rw [← HS.out] at HS'
      rw [← HT.out] at HT'
      generalize (l.getD k default).demand = d at *
      generalize (l.getD k default).weight = wt at *
      generalize xs.getD k 0 = x at *
      obtain ⟨i1, i2⟩ := hin
      have hd1 : decide (x < 0) = false := by simp; omega
      have hd2 : decide (d < x) = false := by simp; omega
      have hdn : ((n : Int) != (n : Int)) = false := by simp
      go_wp2
      obtain ⟨W0, hW0⟩ : ∃ W0, W0 = wr.alloc (.cells #[.int .i64 wt, .int .i64 d] 30) := ⟨_, rfl⟩
      have hbW : Below wr.heap.size wr W0 := by rw [hW0]; exact below_al (Below.refl _ _) _
      have hqa := cell_below hbW hq1
      have hqb : W0.cell? ⟨wr.heap.size, 1, none⟩ = some (.int .i64 d) := by rw [hW0]; go_simp
      rw [← hW0]
      have hbz := below_tr hbr hbW
      obtain ⟨bc, hbc⟩ : ∃ bc, bc = wr.heap.size := ⟨_, rfl⟩
      rw [← hbc] at hqb ⊢
      clear hq1 hq2 hq3 hW0 hbW hbc
      go_quiet (fail)
      go_wp2
      go_roundw
      case rel => exact ⟨k + 1, by omega, by go_num, _, _, rfl, rfl, HS'.out.symm, HT'.out.symm, by omega, by omega, by omega, by omega, below_dr hbz _⟩
      case measure => simp [intOf]; omega
    · obtain rfl : k = n := by omega
      have e1 := HS.out
      rw [List.take_of_length_le (by rw [HP.out.len]; omega), HSUM.out] at e1
      have e2 := HT.out
      rw [List.take_of_length_le (by omega)] at e2
      rw [← e2] at e1
      have hst : S = min T cores := by omega
      have hbf := below_tr hb hbr
      clear e1 e2 HSUM HP HDM hr hx2
      by_cases h9 : cores < T
      · have h8 : S = cores := by omega
        clear hst
        subst h8
        go_wp2_with (go_at_call 8; refine (lives08 _).mono ?_; rintro e w5 ⟨rfl, hb5⟩)
        go_ret
        exact ⟨rfl, below_tr hbf hb5⟩
      · have h8 : S = T := by omega
        clear hst
        subst h8
        go_wp2_with (go_at_call 8; refine (lives08 _).mono ?_; rintro e w5 ⟨rfl, hb5⟩)
        go_ret
        exact ⟨rfl, below_tr hbf hb5⟩
end Go.Proofs.Ytmacpgjmhaoneaa
