/- Bound of the program; all and Bound of the document. -/
import Derived.Test.YtnacfpkagomfaaaStrideBound
namespace Go.Proofs.Ytnacfpkagomfaaa
open Go.RowKit
set_option maxRecDepth 100000 in
set_option maxHeartbeats 2000000 in
theorem sbound (A : Option Addr) (n c : Nat) (xs : List Int) (i : Int) (w : World) (hr : Rds w 1 A n c (nums .i64 xs)) :
    Calls Try.prog 13 #[.slice A n c, .int .i64 i] w fun e w' => e = .returned (.int .i64 (boundV xs i)) ∧ Below w.heap.size w w' := by
  have HA := Lib.hid (sall A n c xs i w hr)
  cases hv : allV xs i with
  | false =>
    rw [hv] at HA
    rw [show boundV xs i = 0 by unfold boundV; rw [hv]; rfl]
    clear hv
    go_enter Try.func13, Try.ntmps13
    go_wp2_with (go_at_call 26; (with_reducible refine HA.out.mono ?_); rintro e w1 ⟨rfl, rfl⟩)
    go_ret
    exact ⟨rfl, Below.refl _ _⟩
  | true =>
    rw [hv] at HA
    have eg : ∀ args w, (callFunc 36 args).run Try.prog w = .ok (.enter 36 args) w := Go.Proofs.enters_of Try.func36 (by kernel_rfl) rfl
    obtain ⟨h1, h2, h3, h4⟩ := allV_iff.1 hv
    obtain ⟨k, rfl⟩ : ∃ k : Nat, i = k := ⟨i.toNat, by omega⟩
    have hk : k < xs.length := by omega
    have hn : xs.length = n := by have := hr.len; rw [nums_length] at this; omega
    obtain ⟨ad, rfl⟩ := hr.some_ (by omega)
    have hc := hr.cell ad rfl k _ (nums_get .i64 xs k hk)
    have hx := h4 xs[k] (List.getElem_mem hk)
    have hs := strideV_in hx
    rw [show boundV xs (k : Int) = sumF (boundF (strideV xs[k])) xs by unfold boundV; rw [hv, if_pos rfl]; simp [List.getD_eq_getElem?_getD, hk]]
    have HST := Lib.hid (fun W => sstride xs[k] W)
    obtain ⟨m, hm⟩ : ∃ m, m = strideV xs[k] := ⟨_, rfl⟩
    rw [← hm] at HST hs ⊢
    have HSU : Hid (∀ (W : World) b, W.cell? ⟨b, 0, none⟩ = some (.int .i64 m) → Rds W 1 (some ad) n c (nums .i64 xs) → Calls Try.prog 27 #[.slice (some ad) n c, .func (.func 36) #[] #[.pointer (some ⟨b, 0, none⟩)]] W fun e w' => e = .returned (.int .i64 (sumF (boundF m) xs)) ∧ Below W.heap.size W w') := by
      intro W b hb hr'
      exact ssum 36 #[.pointer (some ⟨b, 0, none⟩)] eg (boundF m) 1099511627778 (by decide) (some ad) n c xs W hr' (by omega) (fun x hx => boundF_in (by omega) (h4 x hx)) (fun x hx W' hW' => sbound1 x m b W' (by omega) (h4 x hx) (cell_below hW' hb))
    generalize sumF (boundF m) xs = r at *
    have hi1 : (k : Int) < n := by omega
    generalize xs[k] = x at *
    clear hv eg h1 h3 h4 hk hx hm hs
    go_enter Try.func13, Try.ntmps13
    go_wp2_with (first | (go_at_call 26; (with_reducible refine HA.out.mono ?_); rintro e w1 ⟨rfl, rfl⟩) | (go_at_call 8; (with_reducible refine (HST.out _).mono ?_); rintro e w2 ⟨rfl, hb2⟩))
    have hc2 : (w2.alloc (.cells #[.int .i64 m] 3)).cell? ⟨w2.heap.size, 0, none⟩ = some (.int .i64 m) := by go_simp
    have HS2 := Lib.hid (HSU.out _ _ hc2 ((hr.below hb2).below (below_al (Below.refl _ _) _)))
    clear hc2
    go_wp2_with (go_at_call 27; (with_reducible refine HS2.out.mono ?_); rintro e w3 ⟨rfl, hb3⟩)
    go_ret
    exact ⟨rfl, below_tr (below_al hb2 _) hb3⟩
set_option maxRecDepth 100000 in
set_option maxHeartbeats 2000000 in
theorem wall (A : Option Addr) (n c : Nat) (xs : List Int) (i : Int) (w : World) (hr : Rds w 1 A n c (nums .i64 xs)) :
    Calls Try.prog 31 #[.slice A n c, .int .i64 i] w fun e w' => e = .returned (.bool (allV xs i)) ∧ w = w' := by
  have HN : Hid (xs.length = n) := by have := hr.len; rw [nums_length] at this; show _ = _; omega
  have hmax : n ≤ 9223372036854775807 := by have := hr.le; have := hr.max; unfold maxLen at this; omega
  have hv : allV xs i = (decide (xs.length ≤ 32) && decide (0 ≤ i) && decide (i < xs.length) && xs.all rightT) := rfl
  rw [HN.out] at hv
  have HV := Lib.hid hv
  clear hv
  generalize allV xs i = v at HV ⊢
  go_enter Try.func31, Try.ntmps31
  go_wp2
  go_loopw [9] (fun iv wr => ∃ k : Nat, k ≤ n ∧ iv = .int .i64 k ∧ wr = w ∧ Hid ((xs.take k).all rightT = true)) (fun iv _ => n - (intOf iv).toNat)
  case atStart => exact ⟨0, Nat.zero_le _, rfl, rfl, by show _ = _; simp⟩
  case round =>
    obtain ⟨k, hk, rfl, rfl, HJ⟩ := hrel
    by_cases hlt : k < n
    · have hkx : k < xs.length := by rw [HN.out]; exact hlt
      obtain ⟨ad, rfl⟩ := hr.some_ (by omega)
      have hc := hr.cell ad rfl k _ (nums_get .i64 xs k hkx)
      have HR := Lib.hid (fun W => wright xs[k] W)
      have HS : Hid ((xs.take (k + 1)).all rightT = rightT xs[k]) := by
        show _ = _
        rw [List.take_succ_eq_append_getElem hkx, List.all_append, HJ.out]
        simp
      have HA : Hid (rightT xs[k] = false → xs.all rightT = false) := fun h => by
        rw [List.all_eq_false]
        exact ⟨_, List.getElem_mem hkx, by rw [h]; simp⟩
      generalize xs[k] = x at *
      cases hrx : rightT x with
      | true =>
        rw [hrx] at HR HS
        clear hrx HA
        go_wp2_with (go_at_call 39; (with_reducible refine (HR.out _).mono ?_); rintro e w1 ⟨rfl, rfl⟩)
        go_roundw
        case rel => exact ⟨k + 1, by omega, by go_num, trivial, HS.out⟩
        case measure => simp only [intOf]; omega
      | false =>
        rw [hrx] at HR
        have hvf : v = false := by rw [HV.out, HA.out hrx]; simp
        subst hvf
        clear hrx HA HV HS
        go_wp2_with (go_at_call 39; (with_reducible refine (HR.out _).mono ?_); rintro e w1 ⟨rfl, rfl⟩)
        go_ret
        exact ⟨rfl, rfl⟩
    · obtain rfl : k = n := by omega
      have h := HJ.out
      rw [List.take_of_length_le (by rw [HN.out]; exact Nat.le_refl _)] at h
      rw [h] at HV
      clear h HJ
      by_cases h1 : (k : Int) ≤ 32
      · by_cases h2 : 0 ≤ i
        · by_cases h3 : i < k
          all_goals
            have hvv : v = decide (i < (k : Int)) := by rw [HV.out]; simp [h2]; omega
            have HVV := Lib.hid hvv
            clear hvv HV
            go_wp2
            go_ret
            exact ⟨ret_bool (by rw [HVV.out]; simp [h3]), rfl⟩
        · have hvv : v = false := by rw [HV.out]; simp [h2]
          subst hvv
          clear HV
          go_wp2
          go_ret
          exact ⟨rfl, rfl⟩
      · have hvv : v = false := by rw [HV.out]; simp; omega
        subst hvv
        clear HV
        go_wp2
        go_ret
        exact ⟨rfl, rfl⟩
set_option maxRecDepth 100000 in
set_option maxHeartbeats 2000000 in
theorem wbound (A : Option Addr) (n c : Nat) (xs : List Int) (i : Int) (w : World) (hr : Rds w 1 A n c (nums .i64 xs)) :
    Calls Try.prog 14 #[.slice A n c, .int .i64 i] w fun e w' => e = .returned (.int .i64 (boundV xs i)) ∧ Below w.heap.size w w' := by
  have HA := Lib.hid (wall A n c xs i w hr)
  cases hv : allV xs i with
  | false =>
    rw [hv] at HA
    rw [show boundV xs i = 0 by unfold boundV; rw [hv]; rfl]
    clear hv
    go_enter Try.func14, Try.ntmps14
    go_wp2_with (go_at_call 31; (with_reducible refine HA.out.mono ?_); rintro e w1 ⟨rfl, rfl⟩)
    go_ret
    exact ⟨rfl, Below.refl _ _⟩
  | true =>
    rw [hv] at HA
    obtain ⟨h1, h2, h3, h4⟩ := allV_iff.1 hv
    obtain ⟨k, rfl⟩ : ∃ k : Nat, i = k := ⟨i.toNat, by omega⟩
    have hk : k < xs.length := by omega
    have hn : xs.length = n := by have := hr.len; rw [nums_length] at this; omega
    obtain ⟨ad, rfl⟩ := hr.some_ (by omega)
    have hc := hr.cell ad rfl k _ (nums_get .i64 xs k hk)
    have hx := h4 xs[k] (List.getElem_mem hk)
    have hs := strideV_in hx
    rw [show boundV xs (k : Int) = sumF (boundF (strideV xs[k])) xs by unfold boundV; rw [hv, if_pos rfl]; simp [List.getD_eq_getElem?_getD, hk]]
    have HST := Lib.hid (fun W => wstride xs[k] W)
    obtain ⟨m, hm⟩ : ∃ m, m = strideV xs[k] := ⟨_, rfl⟩
    rw [← hm] at HST hs ⊢
    have H4 := Lib.hid h4
    have hi1 : (k : Int) < n := by omega
    have HN := Lib.hid hn
    obtain ⟨s0, s1⟩ := hs
    have h32 : n ≤ 32 := by omega
    generalize xs[k] = x at *
    clear hv h1 h3 h4 hk hx hm hn
    go_enter Try.func14, Try.ntmps14
    go_wp2_with (go_at_call 31; (with_reducible refine HA.out.mono ?_); rintro e w1 ⟨rfl, rfl⟩)
    go_loopw [5, 14] (fun sv iv wr => ∃ (j : Nat) (s : Int), j ≤ n ∧ iv = .int .i64 j ∧ sv = .int .i64 s ∧ wr = w ∧ Hid (s = sumF (boundF m) (xs.take j)) ∧ 0 ≤ s ∧ s ≤ (j : Int) * 1099511627778) (fun _ iv _ => n - (intOf iv).toNat)
    case atStart => exact ⟨0, 0, Nat.zero_le _, rfl, rfl, rfl, by show _ = _; simp [sumF], by omega, by omega⟩
    case round =>
      obtain ⟨j, s, hj, rfl, rfl, rfl, HJ, hs0, hs1⟩ := hrel
      by_cases hlt : j < n
      · have hjx : j < xs.length := by rw [HN.out]; exact hlt
        have hcj := hr.cell ad rfl j _ (nums_get .i64 xs j hjx)
        have hxj := H4.out xs[j] (List.getElem_mem hjx)
        obtain ⟨t0, t1⟩ := strideV_in hxj
        have hbf := boundF_in (m := m) (t := xs[j]) (by omega) hxj
        have HS2 := Lib.hid (fun W => wstride xs[j] W)
        have hsn : sumF (boundF m) (xs.take (j + 1)) = s + boundF m xs[j] := by rw [List.take_succ_eq_append_getElem hjx, sumF_snoc, ← HJ.out]
        unfold boundF at hsn hbf
        have HSN : Hid (s + (2 + m / strideV xs[j]) = sumF (fun t => 2 + m / strideV t) (xs.take (j + 1))) := hsn.symm
        generalize strideV xs[j] = q at *
        generalize xs[j] = y at *
        have d0 : 0 ≤ m / q := Int.ediv_nonneg (by omega) (by omega)
        have hs32 : s ≤ 40000000000000 := by omega
        clear hsn hxj
        go_wp2_with (first | (go_at_call 17; (with_reducible refine (HST.out _).mono ?_); rintro e w2 ⟨rfl, rfl⟩) | (go_at_call 17; (with_reducible refine (HS2.out _).mono ?_); rintro e w3 ⟨rfl, rfl⟩))
        go_roundw
        case rel => exact ⟨j + 1, _, by omega, by go_num, rfl, trivial, HSN.out, by omega, by omega⟩
        case measure => simp only [intOf]; omega
      · obtain rfl : j = n := by omega
        have h := HJ.out
        rw [List.take_of_length_le (by rw [HN.out]; exact Nat.le_refl _)] at h
        have HE := Lib.hid h
        clear h HJ
        go_wp2
        go_ret
        exact ⟨ret_int HE.out, Below.refl _ _⟩
end Go.Proofs.Ytnacfpkagomfaaa
