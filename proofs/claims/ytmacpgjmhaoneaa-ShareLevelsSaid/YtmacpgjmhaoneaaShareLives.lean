/- wherryref08.Good, wherrylaw08.lives. -/
import Derived.Test.YtmacpgjmhaoneaaShareDiv
import Derived.Test.YtmacpgjmhaoneaaInts03
namespace Go.Proofs.Ytmacpgjmhaoneaa
open Go.RowKit
theorem hdivideI (A : Option Addr) (n c : Nat) (l : List Cl) (cores : Int) (start : Int) (w : World) (hr : Rds w 2 A n c (cls l)) (hg : goodC l = true) (h0 : 0 ≤ cores) (hc : cores ≤ 64) (hs : I64 start) :
    Calls Try.prog 10 #[.int .i64 cores, .slice A n c, .int .i64 start] w fun e w' => (∃ g, e = .returned (.slice (some ⟨g, 0, none⟩) n n) ∧ w'.ownsRow w.heap.size 3 1 (.slice (some ⟨g, 0, none⟩) n n) n (nums .i64 (divideC cores.toNat l (atN start n)))) ∧ Below w.heap.size w w' := by
  obtain ⟨k, rfl⟩ : ∃ k : Nat, cores = k := ⟨cores.toNat, by omega⟩
  exact hdivide A n c l k start w hr hg (by omega) hs
set_option maxRecDepth 100000 in
set_option maxHeartbeats 2000000 in
theorem good08 (A : Option Addr) (n c : Nat) (l : List Cl) (w : World) (hr : Rds w 2 A n c (cls l)) :
    Calls Try.prog 13 #[.slice A n c] w fun e w' => e = .returned (.bool (goodC l)) ∧ Below w.heap.size w w' := by
  have HN := Lib.hid (cls_len hr)
  have hmax : n ≤ 9223372036854775807 := by have := hr.le; have := hr.max; unfold maxLen at this; omega
  have HV : Hid (goodC l = (decide (l.length ≤ 64) && !l.any wrongC)) := rfl
  generalize goodC l = v at HV ⊢
  go_enter Try.func13, Try.ntmps13
  go_wp2
  go_loopw [7] (fun i wr => ∃ k : Nat, k ≤ n ∧ i = .int .i64 k ∧ Below w.heap.size w wr ∧ Hid ((l.take k).any wrongC = false)) (fun i _ => n - (intOf i).toNat)
  case atStart => exact ⟨0, Nat.zero_le _, rfl, Below.refl _ _, by show _ = _; simp⟩
  case round =>
    obtain ⟨k, hk, rfl, hb, HJ⟩ := hrel
    by_cases hlt : k < n
    · have hkx : k < l.length := by rw [HN.out]; exact hlt
      obtain ⟨ad, rfl⟩ := hr.some_ (by omega)
      obtain ⟨hc1, hc2⟩ := cl_read (hr.below hb) k _ (List.getElem?_eq_getElem hkx)
      have hq1 := cell_below (Below.refl _ _) hc1
      have hi1 : (k : Int) < (n : Int) := by omega
      have HS : Hid ((l.take (k + 1)).any wrongC = wrongC l[k]) := by
        show _ = _
        rw [List.take_succ_eq_append_getElem hkx, List.any_append, HJ.out]
        simp
      have HA : Hid (wrongC l[k] = true → l.any wrongC = true) := fun h => List.any_eq_true.2 ⟨_, List.getElem_mem hkx, h⟩
      obtain ⟨q, hq⟩ : ∃ q, q = l[k] := ⟨_, rfl⟩
      rw [← hq] at HS HA hc1 hc2
      clear hq hq1
      obtain ⟨a, b⟩ := q
      have HW : Hid (wrongC ⟨a, b⟩ = (decide (a < 1) || decide (65536 < a) || decide (b < 0) || decide (64 < b))) := rfl
      generalize wrongC ⟨a, b⟩ = u at HW HS HA
      simp only at hc1 hc2
      by_cases h1 : a < 1 <;> by_cases h2 : 65536 < a <;> by_cases h3 : b < 0 <;> by_cases h4 : 64 < b
      all_goals first
        | (exfalso; omega)
        | skip
      all_goals
        go_wp2
        first
        | (go_roundw
           case rel => exact ⟨k + 1, by omega, by go_num, below_al hb _, by show _ = _; rw [HS.out, HW.out]; simp [h1, h2, h3, h4]⟩
           case measure => simp [intOf]; omega)
        | (go_ret
           refine ⟨ret_bool ?_, below_al hb _⟩
           rw [HV.out, HA.out (by rw [HW.out]; simp [h1, h2, h3, h4])]
           simp)
    · obtain rfl : k = n := by omega
      have h := HJ.out
      rw [List.take_of_length_le (by rw [HN.out]; exact Nat.le_refl _)] at h
      rw [h, HN.out] at HV
      clear h
      go_wp2
      go_ret
      refine ⟨ret_bool ?_, hb⟩
      rw [HV.out]
      simp; omega
set_option maxRecDepth 100000 in
set_option maxHeartbeats 4000000 in
theorem lives08 (w : World) : Calls Try.prog 8 #[] w fun e w' => e = .returned (.bool true) ∧ Below w.heap.size w w' := by
  have H1 := Lib.hid (fun A W hr => hdivideI A 2 2 [⟨1, 4⟩, ⟨3, 4⟩] 4 0 W hr (by decide) (by decide) (by decide) (by unfold I64; omega))
  rw [show divideC (4 : Int).toNat [⟨1, 4⟩, ⟨3, 4⟩] (atN 0 2) = [1, 3] by decide] at H1
  have H2 := Lib.hid (fun A W hr => hdivideI A 2 2 [⟨1, 4⟩, ⟨3, 2⟩] 4 0 W hr (by decide) (by decide) (by decide) (by unfold I64; omega))
  rw [show divideC (4 : Int).toNat [⟨1, 4⟩, ⟨3, 2⟩] (atN 0 2) = [2, 2] by decide] at H2
  have H3 := Lib.hid (fun A B W h1 h2 => ints03 A 2 2 [1, 3] B 2 2 [1, 3] W h1 h2)
  rw [show decide (([1, 3] : List Int) = [1, 3]) = true from rfl] at H3
  have H4 := Lib.hid (fun A B W h1 h2 => ints03 A 2 2 [2, 2] B 2 2 [2, 2] W h1 h2)
  rw [show decide (([2, 2] : List Int) = [2, 2]) = true from rfl] at H4
  have R1 : Hid (∀ W : World, Rds (W.alloc (.cells #[.int .i64 1, .int .i64 4, .int .i64 3, .int .i64 4] 30)) 2 (some ⟨W.heap.size, 0, none⟩) 2 2 (cls [⟨1, 4⟩, ⟨3, 4⟩])) := fun W => rds_lit W 30 2 2 [.int .i64 1, .int .i64 4, .int .i64 3, .int .i64 4] rfl (by unfold maxLen; omega)
  have R2 : Hid (∀ W : World, Rds (W.alloc (.cells #[.int .i64 1, .int .i64 4, .int .i64 3, .int .i64 2] 30)) 2 (some ⟨W.heap.size, 0, none⟩) 2 2 (cls [⟨1, 4⟩, ⟨3, 2⟩])) := fun W => rds_lit W 30 2 2 [.int .i64 1, .int .i64 4, .int .i64 3, .int .i64 2] rfl (by unfold maxLen; omega)
  have R3 : Hid (∀ W : World, Rds (W.alloc (.cells #[.int .i64 1, .int .i64 3] 3)) 1 (some ⟨W.heap.size, 0, none⟩) 2 2 (nums .i64 [1, 3])) := fun W => rds_lit W 3 1 2 [.int .i64 1, .int .i64 3] rfl (by unfold maxLen; omega)
  have R4 : Hid (∀ W : World, Rds (W.alloc (.cells #[.int .i64 2, .int .i64 2] 3)) 1 (some ⟨W.heap.size, 0, none⟩) 2 2 (nums .i64 [2, 2])) := fun W => rds_lit W 3 1 2 [.int .i64 2, .int .i64 2] rfl (by unfold maxLen; omega)
  go_enter Try.func8, Try.ntmps8
  go_wp2_with (go_at_call 10; (with_reducible refine (H1.out _ _ (R1.out w)).mono ?_); rintro e w1 ⟨⟨g1, rfl, ho1⟩, hb1⟩; have HR1 := Lib.hid (own_rds' ho1).2; have B1 := below_tr (below_al (Below.refl w.heap.size w) _) hb1; clear ho1 hb1)
  go_wp2_with (go_at_call 9; (with_reducible refine (H3.out _ _ _ (HR1.out.below (below_al (Below.refl _ _) _)) (R3.out w1)).mono ?_); rintro e w2 ⟨rfl, hb2⟩; have B2 := below_tr B1 (below_tr (below_al (Below.refl w1.heap.size w1) _) hb2); clear hb2 B1 HR1)
  go_wp2_with (go_at_call 10; (with_reducible refine (H2.out _ _ (R2.out w2)).mono ?_); rintro e w3 ⟨⟨g3, rfl, ho3⟩, hb3⟩; have HR3 := Lib.hid (own_rds' ho3).2; have B3 := below_tr B2 (below_tr (below_al (Below.refl w2.heap.size w2) _) hb3); clear ho3 hb3 B2)
  go_wp2_with (go_at_call 9; (with_reducible refine (H4.out _ _ _ (HR3.out.below (below_al (Below.refl _ _) _)) (R4.out w3)).mono ?_); rintro e w4 ⟨rfl, hb4⟩; have B4 := below_tr B3 (below_tr (below_al (Below.refl w3.heap.size w3) _) hb4); clear hb4 B3 HR3)
  go_ret
  exact ⟨rfl, B4⟩
end Go.Proofs.Ytmacpgjmhaoneaa
