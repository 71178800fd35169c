/- wherryref01: size. -/
import Derived.Test.YtabdipfpfbdghaaDigPlain
import Derived.Test.YtabdipfpfbdghaaNumC
namespace Go.Proofs.Ytabdipfpfbdghaa
open Go.RowKit
theorem u32s_len {w : World} {A : Option Addr} {n c : Nat} {k : IntKind} {bs : List Int} (h : Rds w 1 A n c (nums k bs)) : bs.length = n := by
  have := h.len; rw [nums_length] at this; omega
set_option maxHeartbeats 2000000 in
theorem dsize (A : Option Addr) (n c : Nat) (a : List Int) (B : Option Addr) (m d : Nat) (b : List Int) (w : World) (hr : Rds w 1 A n c (nums .u32 a)) (hr2 : Rds w 1 B m d (nums .u32 b))
    (ha : Dig a) (hb : Dig b) (ta : Trimmed a) (tb : Trimmed b) :
    Calls Try.prog 75 #[.slice A n c, .slice B m d] w fun e w' => e = .returned (.int .i64 (cmpV (valD a) (valD b))) ∧ Below w.heap.size w w' := by
  have HN := Lib.hid (u32s_len hr)
  have HM := Lib.hid (u32s_len hr2)
  have hmax : n ≤ 9223372036854775807 := by have := hr.le; have := hr.max; unfold maxLen at this; omega
  have hmax2 : m ≤ 9223372036854775807 := by have := hr2.le; have := hr2.max; unfold maxLen at this; omega
  have HLT : Hid (∀ x y : Int, x < y → cmpV x y = -1) := fun x y h => by unfold cmpV; rw [if_pos h]
  have HGT : Hid (∀ x y : Int, y < x → cmpV x y = 1) := fun x y h => by unfold cmpV; rw [if_neg (by omega), if_pos h]
  have HDA := Lib.hid ha
  have HDB := Lib.hid hb
  rcases Nat.lt_trichotomy n m with h | h | h
  · have hv := HLT.out _ _ (valD_short ha hb tb (by rw [HN.out, HM.out]; exact h))
    rw [hv]
    have h1 : (n : Int) < m := by omega
    have h2 : ((n : Int) != m) = true := by simp; omega
    clear hv h
    go_enter Try.func75, Try.ntmps75
    go_wp2
    go_ret
    exact ⟨rfl, Below.refl _ _⟩
  · subst h
    have hdn : ((n : Int) != (n : Int)) = false := by simp
    go_enter Try.func75, Try.ntmps75
    go_wp2
    go_loopw [5] (fun i wr => ∃ z : Int, -1 ≤ z ∧ z < n ∧ i = .int .i64 z ∧ Below w.heap.size w wr ∧ Hid (a.drop (z + 1).toNat = b.drop (z + 1).toNat)) (fun i _ => (intOf i + 1).toNat)
    case atStart => exact ⟨(n : Int) - 1, by omega, by omega, rfl, Below.refl _ _, by show _ = _; rw [show ((n : Int) - 1 + 1).toNat = n by omega, List.drop_of_length_le (by rw [HN.out]; exact Nat.le_refl _), List.drop_of_length_le (by rw [HM.out]; exact Nat.le_refl _)]⟩
    case round =>
      obtain ⟨z, hz0, hz1, rfl, hbr, HJ⟩ := hrel
      by_cases hzz : 0 ≤ z
      · obtain ⟨k, rfl⟩ : ∃ k : Nat, z = k := ⟨z.toNat, by omega⟩
        have hlt : k < n := by omega
        have hkx : k < a.length := by rw [HN.out]; exact hlt
        have hky : k < b.length := by rw [HM.out]; exact hlt
        obtain ⟨ad, rfl⟩ := hr.some_ (by omega)
        obtain ⟨bd, rfl⟩ := hr2.some_ (by omega)
        have hc1 := (hr.below hbr).cell ad rfl k _ (nums_get .u32 a k hkx)
        have hc2 := (hr2.below hbr).cell bd rfl k _ (nums_get .u32 b k hky)
        have he := HJ.out
        rw [show ((k : Int) + 1).toNat = k + 1 by omega] at he
        have hx := HDA.out _ (List.getElem_mem hkx)
        have hy := HDB.out _ (List.getElem_mem hky)
        have HV1 : Hid (a[k] < b[k] → cmpV (valD a) (valD b) = -1) := fun h => HLT.out _ _ (valD_lt HDA.out HDB.out hkx hky he h)
        have HV2 : Hid (b[k] < a[k] → cmpV (valD a) (valD b) = 1) := fun h => HGT.out _ _ (valD_lt HDB.out HDA.out hky hkx he.symm h)
        have HE : Hid (a[k] = b[k] → a.drop k = b.drop k) := fun h => by rw [← List.getElem_cons_drop (h := hkx), ← List.getElem_cons_drop (h := hky), h, he]
        clear he
        obtain ⟨x, hxx⟩ : ∃ x, x = a[k] := ⟨_, rfl⟩
        obtain ⟨y, hyy⟩ : ∃ y, y = b[k] := ⟨_, rfl⟩
        rw [← hxx] at hc1 hx HV1 HV2 HE
        rw [← hyy] at hc2 hy HV1 HV2 HE
        clear hxx hyy
        obtain ⟨x1, x2⟩ := hx
        obtain ⟨y1, y2⟩ := hy
        rcases Int.lt_trichotomy x y with h | h | h
        · have hv := HV1.out h
          have HVv := Lib.hid hv
          have hne : (x != y) = true := by simp; omega
          clear hv HV1 HV2 HE
          go_wp2
          go_quiet (fail)
          go_wp2
          go_quiet (fail)
          go_wp2
          go_ret
          exact ⟨ret_int HVv.out.symm, below_dr (below_dr hbr _) _⟩
        · subst h
          have hne : (x != x) = false := by simp
          have HE2 : Hid (a.drop ((k : Int) - 1 + 1).toNat = b.drop ((k : Int) - 1 + 1).toNat) := by
            show _ = _
            rw [show ((k : Int) - 1 + 1).toNat = k by omega]
            exact HE.out rfl
          clear HV1 HV2 HE
          go_wp2
          go_quiet (fail)
          go_wp2
          go_roundw
          case rel => exact ⟨(k : Int) - 1, by omega, by omega, rfl, below_dr hbr _, HE2⟩
          case measure => simp [intOf]
        · have hv := HV2.out h
          have HVv := Lib.hid hv
          have hne : (x != y) = true := by simp; omega
          have hnl : ¬ x < y := by omega
          clear hv HV1 HV2 HE
          go_wp2
          go_quiet (fail)
          go_wp2
          go_quiet (fail)
          go_wp2
          go_ret
          exact ⟨ret_int HVv.out.symm, below_dr (below_dr hbr _) _⟩
      · have he := HJ.out
        rw [show (z + 1).toNat = 0 by omega, List.drop_zero, List.drop_zero] at he
        have hv : cmpV (valD a) (valD b) = 0 := by rw [he]; unfold cmpV; simp
        have HVv := Lib.hid hv
        clear hv he
        go_wp2
        go_ret
        exact ⟨ret_int HVv.out.symm, hbr⟩
  · have hv := HGT.out _ _ (valD_short hb ha ta (by rw [HN.out, HM.out]; exact h))
    rw [hv]
    have h1 : ¬ (n : Int) < m := by omega
    have h2 : ((n : Int) != m) = true := by simp; omega
    clear hv h
    go_enter Try.func75, Try.ntmps75
    go_wp2
    go_ret
    exact ⟨rfl, Below.refl _ _⟩
end Go.Proofs.Ytabdipfpfbdghaa
