/- Package share: Divide. -/
import Derived.Test.YtmacpgjmhaoneaaShareNext
import Derived.Test.YtmacpgjmhaoneaaShareAllPlain
namespace Go.Proofs.Ytmacpgjmhaoneaa
open Go.RowKit
theorem divC_stay (l : List Cl) (order : List Nat) (x : List Int) (k : Nat) (h : nextC l (divC l order k x) order = none) : ∀ j, divC l order (k + j) x = divC l order k x
  | 0 => rfl
  | j + 1 => by
    rw [← Nat.add_assoc, divC_succ, divC_stay l order x k h j]
    unfold oneC
    rw [h]
theorem dnums_set (k : IntKind) (xs : List Int) (j : Nat) (x : Int) : (nums k xs).set j (.int k x) = nums k (xs.set j x) := by simp [nums, List.map_set]
theorem dgetD_nums {k : IntKind} {xs : List Int} {j : Nat} (h : j < xs.length) : (nums k xs)[j]? = some (.int k (xs.getD j 0)) := by
  rw [nums_get k xs j h]
  simp [List.getD_eq_getElem?_getD, h]
theorem getD_all {xs : List Int} {lo hi : Int} (h : ∀ i, i < xs.length → lo ≤ xs.getD i 0 ∧ xs.getD i 0 ≤ hi) : ∀ x ∈ xs, lo ≤ x ∧ x ≤ hi := by
  intro x hx
  obtain ⟨i, hi', rfl⟩ := List.mem_iff_getElem.1 hx
  have := h i hi'
  rwa [show xs.getD i 0 = xs[i] by simp [List.getD_eq_getElem?_getD, hi']] at this
theorem getDm {l : List Cl} {i : Nat} (h : i < l.length) : l.getD i default ∈ l := List.mem_of_getElem? (getDc_of h)
set_option maxRecDepth 100000 in
set_option maxHeartbeats 4000000 in
theorem hdivide (A : Option Addr) (n c : Nat) (l : List Cl) (cores : Nat) (start : Int) (w : World) (hr : Rds w 2 A n c (cls l)) (hg : goodC l = true) (hc : cores ≤ 64) (hs : I64 start) :
    Calls Try.prog 10 #[.int .i64 cores, .slice A n c, .int .i64 start] w fun e w' => (∃ g, e = .returned (.slice (some ⟨g, 0, none⟩) n n) ∧ w'.ownsRow w.heap.size 3 1 (.slice (some ⟨g, 0, none⟩) n n) n (nums .i64 (divideC cores l (atN start n)))) ∧ Below w.heap.size w w' := by
  obtain ⟨g1, g2⟩ := goodC_iff.1 hg
  have hll := cls_len hr
  have HG := Lib.hid (hgood A n c l w hr)
  rw [hg] at HG
  have hn : n ≤ 64 := by omega
  have HO : Hid (∀ i ∈ roundC n (atN start n), i < n) := fun i hi => roundC_lt hi
  have HP := Lib.hid (fun k => parted (l := l) (order := roundC n (atN start n)) (fun c hc => (g2 c hc).2.2.1) (by rw [hll]; exact HO.out) k)
  have HW : Hid (∀ q ∈ l, I64 q.weight) := fun q hq => by have := g2 q hq; unfold I64; omega
  have HD : Hid (∀ q ∈ l, q.demand ≤ 64) := fun q hq => (g2 q hq).2.2.2
  have HR := Lib.hid (fun h0 W => hround n start W h0 hn hs)
  have HV : Hid (divideC cores l (atN start n) = divC l (roundC n (atN start n)) cores (List.replicate l.length 0)) := by show _ = _; unfold divideC; rw [hll]
  have hrl : Hid ((roundC n (atN start n)).length = n) := by show _ = _; simp [roundC]
  have hz : Hid ((madeCells (Value.int .i64 0).cells (n * 1)).toList = nums .i64 (List.replicate l.length 0)) := by
    show _ = _
    rw [Nat.mul_one, show (Value.int .i64 0).cells = #[.int .i64 0] from rfl, toList_madeCells_one, hll]
    simp [nums]
  generalize divideC cores l (atN start n) = dv at *
  generalize roundC n (atN start n) = order at *
  clear g1 g2 hg hs
  go_enter Try.func10, Try.ntmps10
  rcases Nat.eq_zero_or_pos n with h0 | h0
  · subst h0
    have e0 : dv = List.replicate l.length 0 := by
      rw [HV.out]
      apply divC_stop
      cases order with
      | nil => rfl
      | cons a t => have := hrl.out; simp at this
    have HE := Lib.hid e0
    clear e0 HP HV
    go_wp2_with (first | (go_at_call 12; (with_reducible refine HG.out.mono ?_); rintro e w1 ⟨rfl, hb1⟩) | (refine mkn (w0 := w) w.heap.size rfl _ _ 25 3 _ 1 8 rfl Try.underlying25 info_int .i64 .i64 _ _ 0 (by rfl) (by rfl) (by first | rfl | omega) (by first | rfl | omega) (by omega) (by unfold maxLen; omega) hb1 hb1.size ?_; intro w2 ho2 hb2 hg2))
    go_ret
    rw [hz.out, ← HE.out] at ho2
    exact ⟨⟨_, rfl, ho2⟩, hb2⟩
  · have hn0 : ¬ ((n : Nat) : Int) = 0 := by omega
    go_wp2_with (first | (go_at_call 12; (with_reducible refine HG.out.mono ?_); rintro e w1 ⟨rfl, hb1⟩) | (refine mkn (w0 := w) w.heap.size rfl _ _ 25 3 _ 1 8 rfl Try.underlying25 info_int .i64 .i64 _ _ n (by rfl) (by rfl) rfl rfl (by omega) (by unfold maxLen; omega) hb1 hb1.size ?_; intro w2 ho2 hb2 hg2) | (go_at_call 18; (with_reducible refine (HR.out h0 _).mono ?_); rintro e w3 ⟨⟨v3, rfl, ho3⟩, hb3⟩))
    obtain ⟨C, m3, c3, rfl, hm3, hr3⟩ := own_open ho3
    have hm3' := hm3.out
    subst hm3'
    have hz2 : w2.ownsRow w.heap.size 3 1 (.slice (some ⟨w1.heap.size, 0, none⟩) m3 m3) m3 (nums .i64 (divC l order 0 (List.replicate l.length 0))) := by
      rw [show divC l order 0 (List.replicate l.length 0) = List.replicate l.length 0 from rfl, ← hz.out]
      exact ho2
    have hg3 : ∀ a, C = some a → ¬ a.block = w1.heap.size := by
      intro a e
      have h1 := own_base ho3 a.block (by rw [e]; rfl)
      have h2 := (hz2.lt w1.heap.size rfl).2
      omega
    have ho3w := own_below hz2 hb3
    have hb3w := below_then hb2 hb2.size hb3
    have hlt1 := hb1.size
    clear ho2 hg2 ho3 hz2 hb1 hb2 hb3 hz
    generalize w1.heap.size = g at *
    go_loopw [33] (fun i wr => ∃ k : Nat, k ≤ cores ∧ i = .int .i64 k ∧ Chg (fun q => q = g) w3 wr ∧ wr.ownsRow w.heap.size 3 1 (.slice (some ⟨g, 0, none⟩) m3 m3) m3 (nums .i64 (divC l order k (List.replicate l.length 0)))) (fun i _ => cores - (intOf i).toNat)
    case atStart => exact ⟨0, Nat.zero_le _, rfl, Chg.refl _ _, ho3w⟩
    case round =>
      obtain ⟨k, hk, rfl, hch, HOw⟩ := hrel
      clear ho3w
      have hbw := hch.toBelow hb3w hb3w.size (fun q e => by omega)
      by_cases hlt : k < cores
      · have hP := HP.out k
        have hlen := hP.len
        have hsucc := divC_succ l order k (List.replicate l.length 0)
        have hstay := divC_stay l order (List.replicate l.length 0) k
        obtain ⟨xs, hxs⟩ : ∃ xs, xs = divC l order k (List.replicate l.length 0) := ⟨_, rfl⟩
        rw [← hxs] at hP hlen hsucc hstay HOw
        have hall := getD_all (xs := xs) (lo := 0) (hi := 64) (fun i hi => by have := hP.in_ i (by omega); have := HD.out _ (getDm (l := l) (i := i) (by omega)); omega)
        have hin := fun i (hi : i < l.length) => (hP.in_ i hi)
        have HDM : ∀ i, i < l.length → (l.getD i default).demand ≤ 64 := fun i hi => HD.out _ (getDm hi)
        have HN := Lib.hid (fun W (hW : Below wr.heap.size wr W) => hnext (some ⟨g, 0, none⟩) A C m3 m3 c m3 c3 xs l order W ((own_rds' HOw).2.below hW) ((hr.below hbw).below hW) ((hch.rds hr3 hg3).below hW) HO.out (fun x hx => by have := hall x hx; unfold I64; omega) HW.out (by omega))
        clear hr hr3 hP
        cases hnx : nextC l xs order with
        | none =>
          rw [hnx] at HN
          have he := hstay hnx (cores - k)
          rw [show k + (cores - k) = cores by omega, ← HV.out] at he
          rw [← he] at HOw
          have HE := Lib.hid he
          have bf : Hid (bestI none = -1) := rfl
          rw [bf.out] at HN
          clear hnx hstay hsucc hxs he hall hin HDM
          go_wp2_with (go_at_call 19; (with_reducible refine (HN.out _ (Below.refl _ _)).mono ?_); rintro e w5 ⟨rfl, hb5⟩)
          go_ret
          exact ⟨⟨_, rfl, own_below HOw hb5⟩, below_then hbw hbw.size hb5⟩
        | some i =>
          rw [hnx] at HN
          obtain ⟨hm1, hm2⟩ := nextC_mem l xs order i hnx
          have hi := HO.out i hm1
          have hix : i < xs.length := by omega
          have hxi := hin i (by omega)
          have hdi := HDM i (by omega)
          have hone : Hid (divC l order (k + 1) (List.replicate l.length 0) = xs.set i (xs.getD i 0 + 1)) := by
            show _ = _
            rw [hsucc]
            unfold oneC
            rw [hnx]
            rfl
          have bf : Hid (bestI (some i) = (i : Int)) := rfl
          rw [bf.out] at HN
          clear hnx hstay hsucc hxs hall hin HDM hm1 hm2
          have hcx : ∀ W : World, Hid (W.ownsRow w.heap.size 3 1 (.slice (some ⟨g, 0, none⟩) m3 m3) m3 (nums .i64 xs) → W.cell? ⟨g, i, none⟩ = some (.int .i64 (xs.getD i 0)) ∧ W.frozen? ⟨g, i, none⟩ = false ∧ (W.setCell ⟨g, i, none⟩ (.int .i64 (xs.getD i 0 + 1))).ownsRow w.heap.size 3 1 (.slice (some ⟨g, 0, none⟩) m3 m3) m3 (nums .i64 (divC l order (k + 1) (List.replicate l.length 0)))) := by
            intro W HO
            have h1 := HO.cellAt i (by omega)
            rw [dgetD_nums hix] at h1
            have h2 := (HO.stored i (.int .i64 (xs.getD i 0 + 1))).1
            rw [dnums_set, ← hone.out] at h2
            exact ⟨h1, HO.frozenAt i, h2⟩
          generalize (l.getD i default).demand = di at *
          generalize xs.getD i 0 = xi at *
          have hee : Hid (∀ W : World, W.ownsRow w.heap.size 3 1 (.slice (some ⟨g, 0, none⟩) m3 m3) m3 (nums .i64 (divC l order (k + 1) (List.replicate l.length 0))) → W.ownsRow w.heap.size 3 1 (.slice (some ⟨g, 0, none⟩) m3 m3) m3 (nums .i64 (divC l order (k + 1) (List.replicate l.length 0)))) := fun W h => h
          obtain ⟨xs', hxs'⟩ : ∃ xs', xs' = divC l order (k + 1) (List.replicate l.length 0) := ⟨_, rfl⟩
          rw [← hxs'] at hcx
          have HXS := Lib.hid hxs'
          clear hxs' hee
          clear hone hix hlen
          go_wp2_with (go_at_call 19; (with_reducible refine (HN.out _ (Below.refl _ _)).mono ?_); rintro e w5 ⟨rfl, hb5⟩; have ⟨hc1, hc2, hc3⟩ := (hcx w5).out (own_below HOw hb5))
          go_roundw
          case rel => exact ⟨k + 1, by omega, by go_num, (hch.trans (.of_below hb5)).setCell g i _ rfl, by rw [← HXS.out]; exact hc3⟩
          case measure => simp [intOf]; omega
      · obtain rfl : k = cores := by omega
        go_wp2
        go_ret
        rw [← HV.out] at HOw
        exact ⟨⟨_, rfl, HOw⟩, hbw⟩
end Go.Proofs.Ytmacpgjmhaoneaa
