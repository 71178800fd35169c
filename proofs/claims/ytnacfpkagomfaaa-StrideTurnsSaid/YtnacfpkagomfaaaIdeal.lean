/- Package stride: rows of tickets, sums, the share of one. -/
import Derived.Test.YtnacfpkagomfaaaStride
import Derived.Test.YtnacfpkagomfaaaNumW
import Derived.Test.YtnacfpkagomfaaaDiv64
namespace Go.Proofs.Ytnacfpkagomfaaa
open Go.RowKit
theorem bdiv64_any (hi lo y : Nat) (w : World) (hlo : lo < 18446744073709551616) (hy : y < 18446744073709551616) (hh : hi < y) :
    Calls Try.prog 30 #[.int .u64 hi, .int .u64 lo, .int .u64 y] w fun e w' => e = .returned (.tuple #[.int .u64 (((hi * 18446744073709551616 + lo) / y : Nat) : Int), .int .u64 (((hi * 18446744073709551616 + lo) % y : Nat) : Int)]) ∧ ∃ n, w' = w.drewN n := by
  rcases Nat.eq_zero_or_pos hi with rfl | h
  · have := bdiv64_0 lo y w hlo (by omega) hy
    simpa using this
  · exact bdiv64 hi lo y w h hlo hy hh
def allV (xs : List Int) (i : Int) : Bool := decide (xs.length ≤ 32) && decide (0 ≤ i) && decide (i < xs.length) && xs.all rightT
set_option maxHeartbeats 1000000 in
theorem sall (A : Option Addr) (n c : Nat) (xs : List Int) (i : Int) (w : World) (hr : Rds w 1 A n c (nums .i64 xs)) :
    Calls Try.prog 26 #[.slice A n c, .int .i64 i] w fun e w' => e = .returned (.bool (allV xs i)) ∧ w = w' := by
  have HR := Lib.hid (sright A n c xs w hr)
  have HN : Hid (xs.length = n) := by have := hr.len; rw [nums_length] at this; show _ = _; omega
  have hv : allV xs i = (decide (xs.length ≤ 32) && decide (0 ≤ i) && decide (i < xs.length) && xs.all rightT) := rfl
  rw [HN.out] at hv
  have HV := Lib.hid hv
  clear hv
  generalize allV xs i = v at HV ⊢
  generalize xs.all rightT = b at HR HV
  clear hr
  by_cases h1 : (n : Int) ≤ 32 <;> by_cases h2 : 0 ≤ i <;> by_cases h3 : i < n
  all_goals
    go_enter Try.func26, Try.ntmps26
    go_wp2_with ((with_reducible refine HR.out.mono ?_); rintro e w1 ⟨rfl, rfl⟩)
    go_ret
    refine ⟨ret_bool ?_, rfl⟩
    rw [HV.out]
    simp [h2, h3]
    try omega
def sumF (f : Int → Int) (xs : List Int) : Int := (xs.map f).sum
theorem sumF_snoc (f : Int → Int) (xs : List Int) (x : Int) : sumF f (xs ++ [x]) = sumF f xs + f x := by simp [sumF]
theorem sumF_in {f : Int → Int} {M : Int} : ∀ {xs : List Int}, (∀ x ∈ xs, 0 ≤ f x ∧ f x ≤ M) → 0 ≤ sumF f xs ∧ sumF f xs ≤ xs.length * M
  | [], _ => by simp [sumF]
  | x :: xs, h => by
    have h1 := h x (by simp)
    have h2 := sumF_in (xs := xs) (f := f) (M := M) (fun y hy => h y (by simp [hy]))
    simp only [sumF, List.map_cons, List.sum_cons, List.length_cons] at h2 ⊢
    push_cast
    rw [Int.add_mul, Int.one_mul]
    omega
set_option maxHeartbeats 1000000 in
theorem ssum (g : Nat) (lb : Array Value) (eg : ∀ args w, (callFunc g args).run Try.prog w = .ok (.enter g args) w) (f : Int → Int) (M : Int) (hM : M ≤ 281474976710656) (A : Option Addr) (n c : Nat) (xs : List Int) (w : World) (hr : Rds w 1 A n c (nums .i64 xs)) (hn : n ≤ 1000)
    (hf : ∀ x ∈ xs, 0 ≤ f x ∧ f x ≤ M) (hp : ∀ x ∈ xs, ∀ W, Below w.heap.size w W → Calls Try.prog g (#[.int .i64 x] ++ lb) W fun e w' => e = .returned (.int .i64 (f x)) ∧ Below W.heap.size W w') :
    Calls Try.prog 27 #[.slice A n c, .func (.func g) #[] lb] w fun e w' => e = .returned (.int .i64 (sumF f xs)) ∧ Below w.heap.size w w' := by
  have HP := Lib.hid hp
  have HF := Lib.hid hf
  have HN : Hid (xs.length = n) := by have := hr.len; rw [nums_length] at this; show _ = _; omega
  clear hp hf
  go_enter Try.func27, Try.ntmps27
  go_wp2
  go_loopw [5, 10] (fun t i wr => ∃ k : Nat, k ≤ n ∧ i = .int .i64 k ∧ ∃ s : Int, t = .int .i64 s ∧ Hid (s = sumF f (xs.take k)) ∧ Below w.heap.size w wr) (fun _ i _ => n - (intOf i).toNat)
  case atStart => exact ⟨0, Nat.zero_le _, rfl, 0, rfl, by show _ = _; simp [sumF], Below.refl _ _⟩
  case round =>
    obtain ⟨k, hk, rfl, s, rfl, HS, hb⟩ := hrel
    by_cases hlt : k < n
    · have hkx : k < xs.length := by rw [HN.out]; exact hlt
      obtain ⟨ad, rfl⟩ := hr.some_ (by omega)
      have hcell := (hr.below hb).cell ad rfl k _ (nums_get .i64 xs k hkx)
      have HC := Lib.hid (HP.out xs[k] (List.getElem_mem hkx) wr hb)
      have hsn : sumF f (xs.take (k + 1)) = s + f xs[k] := by rw [List.take_succ_eq_append_getElem hkx, sumF_snoc, ← HS.out]
      have hin := sumF_in (xs := xs.take k) (f := f) (M := M) (fun x hx => HF.out x (List.mem_of_mem_take hx))
      rw [← HS.out, List.length_take, Nat.min_eq_left (by omega)] at hin
      have hf1 := HF.out xs[k] (List.getElem_mem hkx)
      have hkM : (k : Int) * M ≤ 1000 * 281474976710656 := by
        have hM0 : 0 ≤ M := by omega
        calc (k : Int) * M ≤ 1000 * M := Int.mul_le_mul_of_nonneg_right (by omega) hM0
          _ ≤ 1000 * 281474976710656 := by omega
      generalize f xs[k] = y at *
      have HSN := Lib.hid hsn
      obtain ⟨i1, i2⟩ := hin
      obtain ⟨f1, f2⟩ := hf1
      have i3 : s ≤ 281474976710656000 := by omega
      generalize xs[k] = x at *
      clear hsn i2 hkM
      go_wp2_with (go_at_fn g; (with_reducible refine HC.out.mono ?_); rintro e w' ⟨rfl, hb2⟩)
      go_roundw
      case rel => exact ⟨k + 1, by omega, by go_num, _, rfl, HSN.out.symm, below_tr hb hb2⟩
      case measure => simp [intOf]; omega
    · obtain rfl : k = n := by omega
      go_wp2
      go_ret
      refine ⟨ret_int ?_, hb⟩
      rw [HS.out, List.take_of_length_le (by rw [HN.out]; exact Nat.le_refl _)]
def idQ (xs : List Int) (i : Nat) (q : Nat) : Nat := q * (xs.getD i 0).toNat / (sumF id xs).toNat
def idR (xs : List Int) (i : Nat) (q : Nat) : Nat := q * (xs.getD i 0).toNat % (sumF id xs).toNat
set_option maxHeartbeats 400000 in
theorem sideal1 (t : Int) (w : World) : Calls Try.prog 28 #[.int .i64 t] w fun e w' => e = .returned (.int .i64 t) ∧ w = w' := by
  go_enter Try.func28, Try.ntmps28
  go_wp2
  go_ret
  exact ⟨rfl, rfl⟩
theorem ret_ii {a b c d : Int} (h : a = c) (h' : b = d) : Ending.returned (.tuple #[.int .i64 a, .int .i64 b]) = .returned (.tuple #[.int .i64 c, .int .i64 d]) := by rw [h, h']
theorem le_sumF {xs : List Int} (h : ∀ x ∈ xs, 0 ≤ x) : ∀ x ∈ xs, x ≤ sumF id xs := by
  induction xs with
  | nil => intro x hx; cases hx
  | cons y xs ih =>
    have h1 := h y (by simp)
    have h2 := sumF_in (xs := xs) (f := fun z => if z ∈ xs then z else 0) (M := 0)
    have hs : 0 ≤ sumF id xs := by
      have : ∀ l : List Int, (∀ z ∈ l, 0 ≤ z) → 0 ≤ sumF id l := by
        intro l
        induction l with
        | nil => intro _; simp [sumF]
        | cons a l ih => intro h; have := ih (fun z hz => h z (by simp [hz])); have := h a (by simp); simp only [sumF, List.map_cons, List.sum_cons, id] at *; omega
      exact this xs (fun z hz => h z (by simp [hz]))
    intro x hx
    have e : sumF id (y :: xs) = y + sumF id xs := by simp [sumF]
    rw [e]
    rcases List.mem_cons.1 hx with rfl | hx
    · omega
    · have := ih (fun z hz => h z (by simp [hz])) x hx
      omega
set_option maxRecDepth 100000 in
set_option maxHeartbeats 2000000 in
theorem sideal (A : Option Addr) (n c : Nat) (xs : List Int) (i q : Nat) (w : World) (hr : Rds w 1 A n c (nums .i64 xs)) (hi : i < xs.length) (hv : allV xs i = true) (hq : q < 9223372036854775808) :
    Calls Try.prog 11 #[.slice A n c, .int .i64 i, .int .i64 q] w fun e w' => e = .returned (.tuple #[.int .i64 (idQ xs i q), .int .i64 (idR xs i q)]) ∧ Below w.heap.size w w' := by
  have eg : ∀ args w, (callFunc 28 args).run Try.prog w = .ok (.enter 28 args) w := Go.Proofs.enters_of Try.func28 (by kernel_rfl) rfl
  have hall : xs.length ≤ 32 ∧ ∀ t ∈ xs, 1 ≤ t ∧ t ≤ 65536 := by
    unfold allV at hv
    simp only [Bool.and_eq_true, decide_eq_true_eq, List.all_eq_true] at hv
    exact ⟨hv.1.1.1, fun t ht => by have := hv.2 t ht; simpa [rightT] using this⟩
  have HN : Hid (xs.length = n) := by have := hr.len; rw [nums_length] at this; show _ = _; omega
  have HA := Lib.hid (sall A n c xs i w hr)
  rw [hv] at HA
  have HS := Lib.hid (ssum 28 #[] eg id 65536 (by decide) A n c xs w hr (by have := HN.out; omega) (fun x hx => by have := hall.2 x hx; simp only [id]; omega) (fun x _ W _ => (sideal1 x W).mono fun e w' h => ⟨h.1, h.2 ▸ Below.refl _ _⟩))
  have hsb := sumF_in (xs := xs) (f := id) (M := 65536) (fun x hx => by have := hall.2 x hx; simp only [id]; omega)
  have hti := hall.2 xs[i] (List.getElem_mem hi)
  have hts := le_sumF (fun x hx => by have := hall.2 x hx; omega) xs[i] (List.getElem_mem hi)
  obtain ⟨ad, rfl⟩ := hr.some_ (by have := HN.out; omega)
  have hc1 := hr.cell ad rfl i _ (nums_get .i64 xs i hi)
  have hget : xs.getD i 0 = xs[i] := by simp [List.getD_eq_getElem?_getD, hi]
  unfold idQ idR
  rw [hget]
  obtain ⟨t, ht⟩ : ∃ t : Nat, xs[i] = t := ⟨xs[i].toNat, by omega⟩
  obtain ⟨T, hT⟩ : ∃ T : Nat, sumF id xs = T := ⟨(sumF id xs).toNat, by omega⟩
  rw [ht] at hti hts hc1 ⊢
  rw [hT] at hsb hts HS ⊢
  simp only [Int.toNat_natCast]
  have hlT : T ≤ 2097152 := by have := hall.1; omega
  have htT : t ≤ T := by omega
  have ht1 : 1 ≤ t := by omega
  have hpq : q * t < T * 18446744073709551616 := by
    have : q * t ≤ q * T := Nat.mul_le_mul_left _ htT
    have h2 : q * T < 9223372036854775808 * T := Nat.mul_lt_mul_of_pos_right hq (by omega)
    omega
  have HM := Lib.hid (fun W => bmul64 q t (by omega) (by omega) W)
  have hhi : q * t / 18446744073709551616 < T := by rw [Nat.div_lt_iff_lt_mul (by decide)]; exact hpq
  have HD := Lib.hid (fun W => bdiv64_any (q * t / 18446744073709551616) (q * t % 18446744073709551616) T W (Nat.mod_lt _ (by decide)) (by omega) hhi)
  rw [show q * t / 18446744073709551616 * 18446744073709551616 + q * t % 18446744073709551616 = q * t by rw [Nat.mul_comm]; exact Nat.div_add_mod _ _] at HD
  have hQ : q * t / T ≤ q := by
    have : q * t / T ≤ q * T / T := Nat.div_le_div_right (Nat.mul_le_mul_left _ htT)
    rw [Nat.mul_div_cancel _ (by omega)] at this
    exact this
  have hR : q * t % T < T := Nat.mod_lt _ (by omega)
  have eQ : wrap64 ((q * t / T : Nat) : Int) = ((q * t / T : Nat) : Int) := wrap64_id ⟨by have := Int.natCast_nonneg (q * t / T); omega, by have h9 : ((q * t / T : Nat) : Int) ≤ (q : Int) := Int.ofNat_le.2 hQ; omega⟩
  have eR : wrap64 ((q * t % T : Nat) : Int) = ((q * t % T : Nat) : Int) := wrap64_id ⟨by have := Int.natCast_nonneg (q * t % T); omega, by have h9 : ((q * t % T : Nat) : Int) < (T : Int) := Int.ofNat_lt.2 hR; omega⟩
  have wq : IntKind.u64.wrap (q : Int) = (q : Int) := Mul64.wrapN _ (by omega)
  have wt : IntKind.u64.wrap (t : Int) = (t : Int) := Mul64.wrapN _ (by omega)
  have wT : IntKind.u64.wrap (T : Int) = (T : Int) := Mul64.wrapN _ (by omega)
  have hmx : max (q : Int) 0 = q := by omega
  have hin : (i : Int) < n := by have := HN.out; omega
  have HQE := Lib.hid eQ
  have HRE := Lib.hid eR
  clear eQ eR hQ hR hhi hpq hq hsb hts hti hall hv hi hget ht hT hlT htT ht1
  generalize q * t / 18446744073709551616 = H at *
  generalize q * t % 18446744073709551616 = L at *
  generalize q * t / T = Q at *
  generalize q * t % T = R at *
  go_enter Try.func11, Try.ntmps11
  go_wp2_with (first | ((with_reducible refine HA.out.mono ?_); rintro e w1 ⟨rfl, rfl⟩) | ((with_reducible refine HS.out.mono ?_); rintro e w2 ⟨rfl, hb2⟩; have hc2 := cell_below hb2 hc1) | ((with_reducible refine (HM.out _).mono ?_); rintro e w3 ⟨rfl, rfl⟩) | ((with_reducible refine (HD.out _).mono ?_); rintro e w4 ⟨rfl, n4, rfl⟩))
  go_ret2
  exact ⟨ret_ii (by first | rfl | exact HQE.out) (by first | rfl | exact HRE.out), below_dr hb2 n4⟩
end Go.Proofs.Ytnacfpkagomfaaa
