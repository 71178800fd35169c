/- The law StrideShares, walked. -/
import Derived.Test.YtnacfpkagomfaaaIdeal
namespace Go.Proofs.Ytnacfpkagomfaaa
open Go.RowKit
def tix (l : List Int) : List Int := l.map (1 + ·)
def sQ (xs : List Int) (q k : Nat) : Nat := ((List.range k).map fun i => idQ xs i q).sum
def sR (xs : List Int) (q k : Nat) : Nat := ((List.range k).map fun i => idR xs i q).sum
theorem sQ_succ (xs : List Int) (q k : Nat) : sQ xs q (k + 1) = sQ xs q k + idQ xs k q := by simp [sQ, List.range_succ]
theorem sR_succ (xs : List Int) (q k : Nat) : sR xs q (k + 1) = sR xs q k + idR xs k q := by simp [sR, List.range_succ]
theorem shares_sum (xs : List Int) (q : Nat) (h : ∀ x ∈ xs, 1 ≤ x) : sQ xs q xs.length * (sumF id xs).toNat + sR xs q xs.length = q * (sumF id xs).toNat := by
  have h1 : ∀ k, k ≤ xs.length → sQ xs q k * (sumF id xs).toNat + sR xs q k = q * (sumF id (xs.take k)).toNat := by
    intro k
    induction k with
    | zero => intro _; simp [sQ, sR, sumF]
    | succ k ih =>
      intro hk
      have ih := ih (by omega)
      have hkx : k < xs.length := by omega
      have hd : idQ xs k q * (sumF id xs).toNat + idR xs k q = q * (xs.getD k 0).toNat := by
        unfold idQ idR
        rw [Nat.mul_comm]
        exact Nat.div_add_mod _ _
      have hg : xs.getD k 0 = xs[k] := by simp [List.getD_eq_getElem?_getD, hkx]
      have hs : (sumF id (xs.take (k + 1))).toNat = (sumF id (xs.take k)).toNat + (xs.getD k 0).toNat := by
        rw [List.take_succ_eq_append_getElem hkx, sumF_snoc, hg]
        have h2 : 0 ≤ sumF id (xs.take k) := by
          have := sumF_in (xs := xs.take k) (f := fun z => if z ∈ xs then (0 : Int) else 0) (M := 0) (by intro x _; simp)
          have : ∀ l : List Int, (∀ z ∈ l, 1 ≤ z) → 0 ≤ sumF id l := by
            intro l
            induction l with
            | nil => intro _; simp [sumF]
            | cons a l ih => intro h; have := ih (fun z hz => h z (by simp [hz])); have := h a (by simp); simp only [sumF, List.map_cons, List.sum_cons, id] at *; omega
          exact this _ (fun z hz => h z (List.mem_of_mem_take hz))
        have h3 := h xs[k] (List.getElem_mem hkx)
        simp only [id]
        omega
      rw [sQ_succ, sR_succ, hs, Nat.add_mul, Nat.mul_add, ← ih, ← hd]
      omega
  have := h1 xs.length (Nat.le_refl _)
  rwa [List.take_length] at this
theorem sQ_le (xs : List Int) (q : Nat) : ∀ k, (∀ i, i < k → idQ xs i q ≤ q) → sQ xs q k ≤ k * q
  | 0, _ => by simp [sQ]
  | k + 1, h => by
    rw [sQ_succ, Nat.add_mul]
    have := sQ_le xs q k (fun i hi => h i (by omega))
    have := h k (by omega)
    omega
theorem sR_le (xs : List Int) (q T : Nat) : ∀ k, (∀ i, i < k → idR xs i q ≤ T) → sR xs q k ≤ k * T
  | 0, _ => by simp [sR]
  | k + 1, h => by
    rw [sR_succ, Nat.add_mul]
    have := sR_le xs q T k (fun i hi => h i (by omega))
    have := h k (by omega)
    omega
theorem tix_all {l : List Int} {i : Nat} (h : ∀ x ∈ l, 0 ≤ x ∧ x ≤ 65535) (hl : l.length ≤ 32) (hi : i < l.length) : allV (tix l) i = true := by
  unfold allV
  have h1 : (tix l).length = l.length := by simp [tix]
  rw [h1]
  simp only [Bool.and_eq_true, decide_eq_true_eq, List.all_eq_true]
  refine ⟨⟨⟨hl, by omega⟩, by omega⟩, fun x hx => ?_⟩
  unfold tix at hx
  obtain ⟨y, hy, rfl⟩ := List.mem_map.1 hx
  have := h y hy
  simp [rightT]
  omega
theorem idQ_le {xs : List Int} {i q : Nat} (h : ∀ x ∈ xs, 1 ≤ x) (hi : i < xs.length) : idQ xs i q ≤ q := by
  have h1 := le_sumF (fun x hx => by have := h x hx; omega) xs[i] (List.getElem_mem hi)
  have h2 := h xs[i] (List.getElem_mem hi)
  have hg : xs.getD i 0 = xs[i] := by simp [List.getD_eq_getElem?_getD, hi]
  unfold idQ
  rw [hg]
  have h3 : q * xs[i].toNat / (sumF id xs).toNat ≤ q * (sumF id xs).toNat / (sumF id xs).toNat := Nat.div_le_div_right (Nat.mul_le_mul_left _ (by omega))
  rw [Nat.mul_div_cancel _ (by omega)] at h3
  exact h3
set_option maxRecDepth 100000 in
set_option maxHeartbeats 4000000 in
theorem shares_lives (A : Option Addr) (m c : Nat) (q : Int) (w : World) (h : m = 0 ∨ 32 < m) :
    Calls Try.prog 4 #[.slice A m c, .int .u16 q] w fun e w' => e = .returned (.bool true) ∧ Below w.heap.size w w' := by
  rcases h with rfl | h
  · go_enter Try.func4, Try.ntmps4
    go_wp2_with (go_at_call 9; refine (lives17 _).mono ?_; rintro e w1 ⟨rfl, hb1⟩)
    go_ret
    exact ⟨rfl, hb1⟩
  · have h2 : decide ((m : Int) > 32) = true := by simp; omega
    have h3 : ((m : Int) == 0) = false := by simp; omega
    clear h
    go_enter Try.func4, Try.ntmps4
    go_wp2_with (go_at_call 9; refine (lives17 _).mono ?_; rintro e w1 ⟨rfl, hb1⟩)
    go_ret
    exact ⟨rfl, hb1⟩
set_option maxRecDepth 100000 in
set_option maxHeartbeats 4000000 in
theorem shares_walk (A : Option Addr) (m c : Nat) (l : List Int) (q : Nat) (w : World) (hr : Rds w 1 A m c (nums .u16 l)) (hl : ∀ x ∈ l, 0 ≤ x ∧ x ≤ 65535) (h0 : 0 < m) (h1 : m ≤ 32) (hq : q ≤ 65535) :
    Calls Try.prog 4 #[.slice A m c, .int .u16 q] w fun e w' => e = .returned (.bool true) ∧ Below w.heap.size w w' := by
  have d1 : decide ((m : Int) > 32) = false := by simp; omega
  have d2 : ((m : Int) == 0) = false := by simp; omega
  have HM : Hid (l.length = m) := by have := hr.len; rw [nums_length] at this; show _ = _; omega
  have HL := Lib.hid hl
  clear hl
  go_enter Try.func4, Try.ntmps4
  go_wp2
  go_loopw [5, 6, 25] (fun v s i wr => ∃ k : Nat, k ≤ m ∧ i = .int .i64 k ∧ ∃ S : Int, s = .int .i64 S ∧ Hid (S = sumF id (tix (l.take k))) ∧ wr.ownsRow w.heap.size 3 1 v (tix (l.take k)).length (nums .i64 (tix (l.take k))) ∧ Below w.heap.size w wr) (fun _ _ i _ => m - (intOf i).toNat)
  case atStart => exact ⟨0, Nat.zero_le _, rfl, 0, rfl, by show _ = _; simp [tix, sumF], World.ownsRow_nil _ _ _ _, Below.refl _ _⟩
  case round =>
    obtain ⟨k, hk, rfl, S, rfl, HS, ho, hb⟩ := hrel
    have hlk : (tix (l.take k)).length = k := by simp [tix, HM.out]; omega
    have hin := sumF_in (xs := tix (l.take k)) (f := id) (M := 65536) (fun x hx => by
      unfold tix at hx
      obtain ⟨y, hy, rfl⟩ := List.mem_map.1 hx
      have := HL.out y (List.mem_of_mem_take hy)
      simp only [id]; omega)
    rw [← HS.out, hlk] at hin
    obtain ⟨i1, i2⟩ := hin
    by_cases hlt : k < m
    · have hkx : k < l.length := by rw [HM.out]; exact hlt
      obtain ⟨ad, rfl⟩ := hr.some_ (by omega)
      have hcell := (hr.below hb).cell ad rfl k _ (nums_get .u16 l k hkx)
      have hx := HL.out l[k] (List.getElem_mem hkx)
      have htk : tix (l.take (k + 1)) = tix (l.take k) ++ [1 + l[k]] := by rw [List.take_succ_eq_append_getElem hkx]; simp only [tix, List.map_append, List.map_cons, List.map_nil]
      have hsn : sumF id (tix (l.take (k + 1))) = S + (1 + l[k]) := by rw [htk, sumF_snoc, ← HS.out]; rfl
      generalize l[k] = x at *
      obtain ⟨x1, x2⟩ := hx
      have HSN := Lib.hid hsn
      have HTK := Lib.hid htk
      have HLK := Lib.hid hlk
      clear hsn htk hlk
      go_wp2_with (at_builtin; refine ap1 (w0 := w) w.heap.size rfl _ _ 28 3 _ 8 (by rfl) Try.underlying28 info_int rfl (by decide) _ _ _ _ (by rfl) (by rfl) rfl ho hb hb.size (by rw [HLK.out]; omega) ?_; intro v1 w1 ho1 hb1 _ _)
      go_roundw
      case rel => exact ⟨k + 1, by omega, by go_num, _, rfl, HSN.out.symm, own_nums_snoc ho1 HTK.out rfl, hb1⟩
      case measure => simp [intOf]; omega
    · obtain rfl : k = m := by omega
      have hall : l.take k = l := List.take_of_length_le (by rw [HM.out]; exact Nat.le_refl _)
      rw [hall] at ho HS hlk
      obtain ⟨W, rfl⟩ : ∃ x, x = wr := ⟨_, rfl⟩
      obtain ⟨A2, n2, c2, rfl, hn2, hr2⟩ := own_open ho
      have hnk : n2 = k := by rw [hn2.out, hlk]
      subst hnk
      have hT1 : ∀ x ∈ tix l, 1 ≤ x := by
        intro x hx
        unfold tix at hx
        obtain ⟨y, hy, rfl⟩ := List.mem_map.1 hx
        have := HL.out y hy
        omega
      have HSS := Lib.hid (shares_sum (tix l) q hT1)
      have HA := Lib.hid (fun i hi => tix_all (i := i) HL.out (by rw [HM.out]; exact h1) hi)
      have HQL := Lib.hid (fun i hi => idQ_le (i := i) (q := q) hT1 hi)
      have hS1 : 1 ≤ S := by
        have hx0 : 0 < (tix l).length := by rw [hlk]; exact h0
        have := le_sumF (fun x hx => by have := hT1 x hx; omega) (tix l)[0] (List.getElem_mem hx0)
        have := hT1 (tix l)[0] (List.getElem_mem hx0)
        have := HS.out
        omega
      have hTN : (sumF id (tix l)).toNat = S.toNat := by rw [HS.out]
      have HRL : Hid (∀ i, idR (tix l) i q < S.toNat) := fun i => by unfold idR; rw [hTN]; exact Nat.mod_lt _ (by omega)
      rw [hTN, hlk] at HSS
      have HLK := Lib.hid hlk
      obtain ⟨T, rfl⟩ : ∃ T : Nat, S = T := ⟨S.toNat, by omega⟩
      simp only [Int.toNat_natCast] at HSS HRL
      clear hT1 hall ho hr hTN hlk hn2 i1
      go_wp2
      go_loopw [9, 10, 43] (fun a b i wr => ∃ j : Nat, j ≤ n2 ∧ i = .int .i64 j ∧ ∃ a' b' : Nat, a = .int .i64 a' ∧ b = .int .i64 b' ∧ Hid (a' = sQ (tix l) q j) ∧ Hid (b' = sR (tix l) q j) ∧ a' ≤ j * 65535 ∧ b' ≤ j * T ∧ Below w.heap.size w wr ∧ Below W.heap.size W wr) (fun _ _ i _ => n2 - (intOf i).toNat)
      case atStart => exact ⟨0, Nat.zero_le _, rfl, 0, 0, rfl, rfl, by show _ = _; simp [sQ], by show _ = _; simp [sR], by omega, by omega, hb, Below.refl _ _⟩
      case round =>
        obtain ⟨j, hj, rfl, a', b', rfl, rfl, HQ, HR, ha, hbb, hbw, hbW⟩ := hrel
        have hjT : j * T ≤ 32 * 2097152 := Nat.mul_le_mul (by omega) (by omega)
        by_cases hlt2 : j < n2
        · have hjx : j < (tix l).length := by rw [HLK.out]; exact hlt2
          have HI := Lib.hid (sideal A2 n2 c2 (tix l) j q wr (hr2.below hbW) hjx (HA.out j (by rw [HM.out]; exact hlt2)) (by omega))
          have hql := HQL.out j hjx
          have hrl := HRL.out j
          have HQN := Lib.hid (sQ_succ (tix l) q j)
          have HRN := Lib.hid (sR_succ (tix l) q j)
          rw [← HQ.out] at HQN
          rw [← HR.out] at HRN
          generalize idQ (tix l) j q = x at *
          generalize idR (tix l) j q = y at *
          have hjT2 : (j + 1) * T = j * T + T := by rw [Nat.add_mul, Nat.one_mul]
          have HJT := Lib.hid hjT2
          clear hjT2
          generalize j * T = jT at *
          go_wp2_with ((with_reducible refine HI.out.mono ?_); rintro e w' ⟨rfl, hb2⟩)
          go_roundw
          case rel => exact ⟨j + 1, by omega, by go_num, a' + x, b' + y, by go_num, by go_num, HQN.out.symm, HRN.out.symm, by omega, by rw [HJT.out]; omega, below_tr hbw hb2, below_tr hbW hb2⟩
          case measure => simp [intOf]; omega
        · obtain rfl : j = n2 := by omega
          have hfin : a' * T + b' = q * T := by rw [HQ.out, HR.out]; exact HSS.out
          have hq1 : q * T ≤ 65535 * 2097152 := Nat.mul_le_mul hq (by omega)
          have e1 : wrap64 (wrap64 ((a' : Int) * (T : Int)) + (b' : Int)) = ((q * T : Nat) : Int) := by
            rw [← hfin, ← Int.natCast_mul]
            have : a' * T ≤ q * T := by omega
            generalize a' * T = z at *
            unfold wrap64
            omega
          have e2 : wrap64 ((q : Int) * (T : Int)) = ((q * T : Nat) : Int) := by
            rw [← Int.natCast_mul]
            unfold wrap64
            omega
          clear hfin hq1 hjT ha hbb
          go_wp2_with (go_at_call 9; refine (lives17 _).mono ?_; rintro e w5 ⟨rfl, hb5⟩)
          go_ret
          exact ⟨rfl, below_tr hbw hb5⟩
end Go.Proofs.Ytnacfpkagomfaaa
