/- wherryref08: Divide. -/
import Derived.Test.YtmacpgjmhaoneaaRefNext
namespace Go.Proofs.Ytmacpgjmhaoneaa
open Go.RowKit
set_option maxRecDepth 100000 in
set_option maxHeartbeats 1000000 in
theorem next08z (A B : Option Addr) (c d : Nat) (l : List Cl) (start : Int) (w : World) (hr2 : Rds w 2 B 0 d (cls l)) (hg : goodC l = true) :
    Calls Try.prog 20 #[.slice B 0 d, .slice A 0 c, .int .i64 start] w fun e w' => e = .returned (.int .i64 (-1)) ∧ Below w.heap.size w w' := by
  have HG := Lib.hid (good08 B 0 d l w hr2)
  rw [hg] at HG
  have hdn : ((0 : Int) != (0 : Int)) = false := by simp
  have hd0 : ((0 : Int) == 0) = true := by simp
  clear hg
  go_enter Try.func20, Try.ntmps20
  go_wp2_with (go_at_call 13; (with_reducible refine HG.out.mono ?_); rintro e w1 ⟨rfl, hb1⟩)
  go_ret
  exact ⟨rfl, hb1⟩
theorem next08_any (A B : Option Addr) (n c d : Nat) (xs : List Int) (l : List Cl) (start : Int) (w : World) (hr : Rds w 1 A n c (nums .i64 xs)) (hr2 : Rds w 2 B n d (cls l)) (hg : goodC l = true) (hs : I64 start) (hx : ∀ x ∈ xs, I64 x) :
    Calls Try.prog 20 #[.slice B n d, .slice A n c, .int .i64 start] w fun e w' => e = .returned (.int .i64 (bestI (nextC l xs (roundC n (atN start n))))) ∧ Below w.heap.size w w' := by
  rcases Nat.eq_zero_or_pos n with h0 | h0
  · subst h0
    exact next08z A B c d l start w hr2 hg
  · exact next08 A B n c d xs l start w hr hr2 hg h0 hs hx
set_option maxRecDepth 100000 in
set_option maxHeartbeats 4000000 in
theorem divide08 (A : Option Addr) (n c : Nat) (l : List Cl) (cores : Nat) (start : Int) (w : World) (hr : Rds w 2 A n c (cls l)) (hg : goodC l = true) (hc : cores ≤ 64) (hs : I64 start) :
    Calls Try.prog 11 #[.int .i64 cores, .slice A n c, .int .i64 start] w fun e w' => (∃ g, e = .returned (.slice (some ⟨g, 0, none⟩) n n) ∧ w'.ownsRow w.heap.size 3 1 (.slice (some ⟨g, 0, none⟩) n n) n (nums .i64 (divideC cores l (atN start n)))) ∧ Below w.heap.size w w' := by
  obtain ⟨g1, g2⟩ := goodC_iff.1 hg
  have hll := cls_len hr
  have HG := Lib.hid (good08 A n c l w hr)
  rw [hg] at HG
  have hn : n ≤ 64 := by omega
  have HO : Hid (∀ i ∈ roundC n (atN start n), i < n) := fun i hi => roundC_lt hi
  have HP := Lib.hid (fun k => parted (l := l) (order := roundC n (atN start n)) (fun c hc => (g2 c hc).2.2.1) (by rw [hll]; exact HO.out) k)
  have HD : Hid (∀ q ∈ l, q.demand ≤ 64) := fun q hq => (g2 q hq).2.2.2
  have HV : Hid (divideC cores l (atN start n) = divC l (roundC n (atN start n)) cores (List.replicate l.length 0)) := by show _ = _; unfold divideC; rw [hll]
  have hz : Hid ((madeCells (Value.int .i64 0).cells (n * 1)).toList = nums .i64 (List.replicate l.length 0)) := by
    show _ = _
    rw [Nat.mul_one, show (Value.int .i64 0).cells = #[.int .i64 0] from rfl, toList_madeCells_one, hll]
    simp [nums]
  have HNX := Lib.hid (fun A' m xs W h1 h2 hx => next08_any A' A n m c xs l start W h1 h2 hg hs hx)
  generalize divideC cores l (atN start n) = dv at *
  generalize roundC n (atN start n) = order at *
  clear g1 g2 hg hs
  go_enter Try.func11, Try.ntmps11
  go_wp2_with (first | (go_at_call 13; (with_reducible refine HG.out.mono ?_); rintro e w1 ⟨rfl, hb1⟩) | (refine mkn (w0 := w) w.heap.size rfl _ _ 25 3 _ 1 8 rfl Try.underlying25 info_int .i64 .i64 _ _ n (by rfl) (by rfl) rfl rfl (by omega) (by unfold maxLen; omega) hb1 hb1.size ?_; intro w2 ho2 hb2 hg2))
  have hz2 : w2.ownsRow w.heap.size 3 1 (.slice (some ⟨w1.heap.size, 0, none⟩) n n) n (nums .i64 (divC l order 0 (List.replicate l.length 0))) := by
    rw [show divC l order 0 (List.replicate l.length 0) = List.replicate l.length 0 from rfl, ← hz.out]
    exact ho2
  have hlt1 := hb1.size
  clear ho2 hg2 hb1 hz
  generalize w1.heap.size = g at *
  go_loopw [0] (fun i wr => ∃ k : Nat, k ≤ cores ∧ i = .int .i64 ((cores : Int) - k) ∧ Chg (fun q => q = g) w2 wr ∧ wr.ownsRow w.heap.size 3 1 (.slice (some ⟨g, 0, none⟩) n n) n (nums .i64 (divC l order k (List.replicate l.length 0)))) (fun i _ => (intOf i).toNat)
  case atStart => exact ⟨0, Nat.zero_le _, by simp, Chg.refl _ _, hz2⟩
  case round =>
    obtain ⟨k, hk, rfl, hch, HOw⟩ := hrel
    clear hz2
    have hbw := hch.toBelow hb2 hb2.size (fun q e => by omega)
    by_cases hlt : k < cores
    · have hP := HP.out k
      have hlen := hP.len
      have hsucc := divC_succ l order k (List.replicate l.length 0)
      have hstay := divC_stay l order (List.replicate l.length 0) k
      obtain ⟨xs, hxs⟩ : ∃ xs, xs = divC l order k (List.replicate l.length 0) := ⟨_, rfl⟩
      rw [← hxs] at hP hlen hsucc hstay HOw
      have hall := getD_all (xs := xs) (lo := 0) (hi := 64) (fun i hi => by have := hP.in_ i (by omega); have := HD.out _ (getDm (l := l) (i := i) (by omega)); omega)
      have hin := fun i (hi : i < l.length) => (hP.in_ i hi)
      have HDM : ∀ i, i < l.length → (l.getD i default).demand ≤ 64 := fun i hi => HD.out _ (getDm hi)
      have HN := Lib.hid (fun W (hW : Below wr.heap.size wr W) => HNX.out (some ⟨g, 0, none⟩) n xs W ((own_rds' HOw).2.below hW) ((hr.below hbw).below hW) (fun x hx => by have := hall x hx; unfold I64; omega))
      have hcc : (0 : Int) < (cores : Int) - k := by omega
      clear hr hP HNX
      cases hnx : nextC l xs order with
      | none =>
        rw [hnx] at HN
        have he := hstay hnx (cores - k)
        rw [show k + (cores - k) = cores by omega, ← HV.out] at he
        rw [← he] at HOw
        have HE := Lib.hid he
        have bf : Hid (bestI none = -1) := rfl
        rw [bf.out] at HN
        clear hnx hstay hsucc hxs he hall hin HDM
        go_wp2_with (go_at_call 20; (with_reducible refine (HN.out _ (Below.refl _ _)).mono ?_); rintro e w5 ⟨rfl, hb5⟩)
        go_ret
        exact ⟨⟨_, rfl, own_below HOw hb5⟩, below_then hbw hbw.size hb5⟩
      | some i =>
        rw [hnx] at HN
        obtain ⟨hm1, hm2⟩ := nextC_mem l xs order i hnx
        have hi := HO.out i hm1
        have hix : i < xs.length := by omega
        have hxi := hin i (by omega)
        have hdi := HDM i (by omega)
        have hone : Hid (divC l order (k + 1) (List.replicate l.length 0) = xs.set i (xs.getD i 0 + 1)) := by
          show _ = _
          rw [hsucc]
          unfold oneC
          rw [hnx]
          rfl
        have bf : Hid (bestI (some i) = (i : Int)) := rfl
        rw [bf.out] at HN
        clear hnx hstay hsucc hxs hall hin HDM hm1 hm2
        have hcx : ∀ W : World, Hid (W.ownsRow w.heap.size 3 1 (.slice (some ⟨g, 0, none⟩) n n) n (nums .i64 xs) → W.cell? ⟨g, i, none⟩ = some (.int .i64 (xs.getD i 0)) ∧ W.frozen? ⟨g, i, none⟩ = false ∧ (W.setCell ⟨g, i, none⟩ (.int .i64 (xs.getD i 0 + 1))).ownsRow w.heap.size 3 1 (.slice (some ⟨g, 0, none⟩) n n) n (nums .i64 (divC l order (k + 1) (List.replicate l.length 0)))) := by
          intro W HO
          have h1 := HO.cellAt i (by omega)
          rw [dgetD_nums hix] at h1
          have h2 := (HO.stored i (.int .i64 (xs.getD i 0 + 1))).1
          rw [dnums_set, ← hone.out] at h2
          exact ⟨h1, HO.frozenAt i, h2⟩
        have hin1 : (i : Int) < n := by omega
        generalize (l.getD i default).demand = di at *
        generalize xs.getD i 0 = xi at *
        obtain ⟨xs', hxs'⟩ : ∃ xs', xs' = divC l order (k + 1) (List.replicate l.length 0) := ⟨_, rfl⟩
        rw [← hxs'] at hcx
        have HXS := Lib.hid hxs'
        clear hxs'
        clear hone hix hlen
        go_wp2_with (go_at_call 20; (with_reducible refine (HN.out _ (Below.refl _ _)).mono ?_); rintro e w5 ⟨rfl, hb5⟩; have ⟨hc1, hc2, hc3⟩ := (hcx w5).out (own_below HOw hb5))
        go_roundw
        case rel => exact ⟨k + 1, by omega, by go_num, (hch.trans (.of_below hb5)).setCell g i _ rfl, by rw [← HXS.out]; exact hc3⟩
        case measure => simp [intOf]; omega
    · obtain rfl : k = cores := by omega
      have hcc : ¬ (0 : Int) < (k : Int) - k := by omega
      go_wp2
      go_ret
      rw [← HV.out] at HOw
      exact ⟨⟨_, rfl, HOw⟩, hbw⟩
end Go.Proofs.Ytmacpgjmhaoneaa
