/- Ideal, of both. -/
import Derived.Test.YtnacfpkagomfaaaStrideBound2
import Derived.Test.YtnacfpkagomfaaaDigParted
import Derived.Test.YtnacfpkagomfaaaDigDivPlain
import Derived.Test.YtnacfpkagomfaaaRegionJ
namespace Go.Proofs.Ytnacfpkagomfaaa
open Go.RowKit
set_option maxRecDepth 100000 in
set_option maxHeartbeats 2000000 in
theorem sidealN (A : Option Addr) (n c : Nat) (xs : List Int) (i q : Nat) (quanta : Int) (hmx : max quanta 0 = (q : Int)) (w : World) (hr : Rds w 1 A n c (nums .i64 xs)) (hi : i < xs.length) (hv : allV xs i = true) (hq : q < 9223372036854775808) :
    Calls Try.prog 11 #[.slice A n c, .int .i64 i, .int .i64 quanta] w fun e w' => e = .returned (.tuple #[.int .i64 (idQ xs i q), .int .i64 (idR xs i q)]) ∧ Below w.heap.size w w' := by
  have eg : ∀ args w, (callFunc 28 args).run Try.prog w = .ok (.enter 28 args) w := Go.Proofs.enters_of Try.func28 (by kernel_rfl) rfl
  have hall : xs.length ≤ 32 ∧ ∀ t ∈ xs, 1 ≤ t ∧ t ≤ 65536 := by
    unfold allV at hv
    simp only [Bool.and_eq_true, decide_eq_true_eq, List.all_eq_true] at hv
    exact ⟨hv.1.1.1, fun t ht => by have := hv.2 t ht; simpa [rightT] using this⟩
  have HN : Hid (xs.length = n) := by have := hr.len; rw [nums_length] at this; show _ = _; omega
  have HA := Lib.hid (sall A n c xs i w hr)
  rw [hv] at HA
  have HS := Lib.hid (ssum 28 #[] eg id 65536 (by decide) A n c xs w hr (by have := HN.out; omega) (fun x hx => by have := hall.2 x hx; simp only [id]; omega) (fun x _ W _ => (sideal1 x W).mono fun e w' h => ⟨h.1, h.2 ▸ Below.refl _ _⟩))
  have hsb := sumF_in (xs := xs) (f := id) (M := 65536) (fun x hx => by have := hall.2 x hx; simp only [id]; omega)
  have hti := hall.2 xs[i] (List.getElem_mem hi)
  have hts := le_sumF (fun x hx => by have := hall.2 x hx; omega) xs[i] (List.getElem_mem hi)
  obtain ⟨ad, rfl⟩ := hr.some_ (by have := HN.out; omega)
  have hc1 := hr.cell ad rfl i _ (nums_get .i64 xs i hi)
  have hget : xs.getD i 0 = xs[i] := by simp [List.getD_eq_getElem?_getD, hi]
  unfold idQ idR
  rw [hget]
  obtain ⟨t, ht⟩ : ∃ t : Nat, xs[i] = t := ⟨xs[i].toNat, by omega⟩
  obtain ⟨T, hT⟩ : ∃ T : Nat, sumF id xs = T := ⟨(sumF id xs).toNat, by omega⟩
  rw [ht] at hti hts hc1 ⊢
  rw [hT] at hsb hts HS ⊢
  simp only [Int.toNat_natCast]
  have hlT : T ≤ 2097152 := by have := hall.1; omega
  have htT : t ≤ T := by omega
  have ht1 : 1 ≤ t := by omega
  have hpq : q * t < T * 18446744073709551616 := by
    have : q * t ≤ q * T := Nat.mul_le_mul_left _ htT
    have h2 : q * T < 9223372036854775808 * T := Nat.mul_lt_mul_of_pos_right hq (by omega)
    omega
  have HM := Lib.hid (fun W => bmul64 q t (by omega) (by omega) W)
  have hhi : q * t / 18446744073709551616 < T := by rw [Nat.div_lt_iff_lt_mul (by decide)]; exact hpq
  have HD := Lib.hid (fun W => bdiv64_any (q * t / 18446744073709551616) (q * t % 18446744073709551616) T W (Nat.mod_lt _ (by decide)) (by omega) hhi)
  rw [show q * t / 18446744073709551616 * 18446744073709551616 + q * t % 18446744073709551616 = q * t by rw [Nat.mul_comm]; exact Nat.div_add_mod _ _] at HD
  have hQ : q * t / T ≤ q := by
    have : q * t / T ≤ q * T / T := Nat.div_le_div_right (Nat.mul_le_mul_left _ htT)
    rw [Nat.mul_div_cancel _ (by omega)] at this
    exact this
  have hR : q * t % T < T := Nat.mod_lt _ (by omega)
  have eQ : wrap64 ((q * t / T : Nat) : Int) = ((q * t / T : Nat) : Int) := wrap64_id ⟨by have := Int.natCast_nonneg (q * t / T); omega, by have h9 : ((q * t / T : Nat) : Int) ≤ (q : Int) := Int.ofNat_le.2 hQ; omega⟩
  have eR : wrap64 ((q * t % T : Nat) : Int) = ((q * t % T : Nat) : Int) := wrap64_id ⟨by have := Int.natCast_nonneg (q * t % T); omega, by have h9 : ((q * t % T : Nat) : Int) < (T : Int) := Int.ofNat_lt.2 hR; omega⟩
  have wq : IntKind.u64.wrap (q : Int) = (q : Int) := Mul64.wrapN _ (by omega)
  have wt : IntKind.u64.wrap (t : Int) = (t : Int) := Mul64.wrapN _ (by omega)
  have wT : IntKind.u64.wrap (T : Int) = (T : Int) := Mul64.wrapN _ (by omega)
  have hin : (i : Int) < n := by have := HN.out; omega
  have HQE := Lib.hid eQ
  have HRE := Lib.hid eR
  clear eQ eR hQ hR hhi hpq hq hsb hts hti hall hv hi hget ht hT hlT htT ht1
  generalize q * t / 18446744073709551616 = H at *
  generalize q * t % 18446744073709551616 = L at *
  generalize q * t / T = Q at *
  generalize q * t % T = R at *
  go_enter Try.func11, Try.ntmps11
  go_wp2_with (first | ((with_reducible refine HA.out.mono ?_); rintro e w1 ⟨rfl, rfl⟩) | ((with_reducible refine HS.out.mono ?_); rintro e w2 ⟨rfl, hb2⟩; have hc2 := cell_below hb2 hc1) | ((with_reducible refine (HM.out _).mono ?_); rintro e w3 ⟨rfl, rfl⟩) | ((with_reducible refine (HD.out _).mono ?_); rintro e w4 ⟨rfl, n4, rfl⟩))
  go_ret2
  exact ⟨ret_ii (by first | rfl | exact HQE.out) (by first | rfl | exact HRE.out), below_dr hb2 n4⟩
theorem sideal_no (A : Option Addr) (n c : Nat) (xs : List Int) (i quanta : Int) (w : World) (hr : Rds w 1 A n c (nums .i64 xs)) (hv : allV xs i = false) :
    Calls Try.prog 11 #[.slice A n c, .int .i64 i, .int .i64 quanta] w fun e w' => e = .returned (.tuple #[.int .i64 0, .int .i64 0]) ∧ w = w' := by
  have HA := Lib.hid (sall A n c xs i w hr)
  rw [hv] at HA
  clear hv
  go_enter Try.func11, Try.ntmps11
  go_wp2_with (go_at_call 26; (with_reducible refine HA.out.mono ?_); rintro e w1 ⟨rfl, rfl⟩)
  go_ret2
  exact ⟨rfl, rfl⟩
theorem wideal_no (A : Option Addr) (n c : Nat) (xs : List Int) (i quanta : Int) (w : World) (hr : Rds w 1 A n c (nums .i64 xs)) (hv : allV xs i = false) :
    Calls Try.prog 12 #[.slice A n c, .int .i64 i, .int .i64 quanta] w fun e w' => e = .returned (.tuple #[.int .i64 0, .int .i64 0]) ∧ w = w' := by
  have HA := Lib.hid (wall A n c xs i w hr)
  rw [hv] at HA
  clear hv
  go_enter Try.func12, Try.ntmps12
  go_wp2_with (go_at_call 31; (with_reducible refine HA.out.mono ?_); rintro e w1 ⟨rfl, rfl⟩)
  go_ret2
  exact ⟨rfl, rfl⟩
/-- Two wide numbers, as Parted tells them. -/
def Pair2 (W : World) (v : Value) (x y : Int) : Prop := ∃ r1 r2, v = .tuple #[r1, r2] ∧ Wd W r1 x 100 ∧ Wd W r2 y 200
/-- Memory grows, or a wide number is stored in its box. -/
def SW (W W' : World) : Prop := Below W.heap.size W W' ∨ ∃ (k : Nat) (s : Bool) (A : Option Addr) (n c : Nat) (s' : Bool) (A' : Option Addr) (n' c' : Nat), BW W k s A n c ∧ W' = stW W k s' A' n' c'
theorem Wd.sw {W W' : World} {v : Value} {z : Int} {N : Nat} (h : Wd W v z N) (hs : SW W W') : Wd W' v z N := by
  rcases hs with hb | ⟨k, s, A, n, c, s', A', n', c', hb, rfl⟩
  · exact h.below hb
  · exact h.st hb s' A' n' c'
def FWdS (S : World → World → Prop) (hS : ∀ W W', S W W' → SW W W') (z : Int) (N : Nat) : FactS S := ⟨fun v W => Wd W v z N, fun _ _ _ h hs => h.sw (hS _ _ hs)⟩
def FPairS (S : World → World → Prop) (hS : ∀ W W', S W W' → SW W W') (x y : Int) : FactS S := ⟨fun v W => Pair2 W v x y, fun _ _ _ ⟨r1, r2, e, h1, h2⟩ hs => ⟨r1, r2, e, h1.sw (hS _ _ hs), h2.sw (hS _ _ hs)⟩⟩
/-- Two boxes of the call's own, apart; behind its store each holds its number. -/
structure TwoG (w : World) (x y : Int) (a b c d : Option Value) (W : World) : Prop where
  be : Below w.heap.size w W
  l : ∀ v, a = some v → ∃ (k : Nat) (s : Bool) (A : Option Addr) (n m : Nat), v = .pointer (some ⟨k, 0, none⟩) ∧ w.heap.size ≤ k ∧ BW W k s A n m ∧ (c.isSome = true → Wd W (.agg #[.bool s, .slice A n m]) x 100)
  r : ∀ v, b = some v → ∃ (k : Nat) (s : Bool) (A : Option Addr) (n m : Nat), v = .pointer (some ⟨k, 0, none⟩) ∧ w.heap.size ≤ k ∧ BW W k s A n m ∧ (d.isSome = true → Wd W (.agg #[.bool s, .slice A n m]) y 200)
  ne : ∀ v u, a = some v → b = some u → v ≠ u
  ca : c.isSome = true → a.isSome = true
  db : d.isSome = true → b.isSome = true
theorem TwoG.stay {w : World} {x y : Int} {a b c d : Option Value} {W W' : World} (h : TwoG w x y a b c d W) (hb : Below W.heap.size W W') : TwoG w x y a b c d W' :=
  ⟨below_then h.be h.be.size hb,
   fun v e => by obtain ⟨k, s, A, n, m, h1, h2, h3, h4⟩ := h.l v e; exact ⟨k, s, A, n, m, h1, h2, h3.below hb, fun h => (h4 h).below hb⟩,
   fun v e => by obtain ⟨k, s, A, n, m, h1, h2, h3, h4⟩ := h.r v e; exact ⟨k, s, A, n, m, h1, h2, h3.below hb, fun h => (h4 h).below hb⟩, h.ne, h.ca, h.db⟩
theorem TwoG.left {w : World} {x y : Int} {b c d : Option Value} {W : World} (h : TwoG w x y none b c d W) : TwoG w x y (some (.pointer (some ⟨W.heap.size, 0, none⟩))) b c d (W.alloc (.cells #[.bool false, .slice none 0 0] 50)) := by
  have h' := h.stay (below_al (Below.refl _ _) (.cells #[.bool false, .slice none 0 0] 50))
  refine ⟨h'.be, ?_, h'.r, ?_, fun _ => rfl, h'.db⟩
  · intro v e; cases e
    exact ⟨_, _, _, _, _, rfl, h.be.size, BW.new W false none 0 0, fun hc => by have := h.ca hc; cases this⟩
  · intro v u e e' he
    cases e
    obtain ⟨k, s, A, n, m, h1, _, h2, _⟩ := h.r u e'
    rw [h1] at he
    cases he
    have := h2.lt
    omega
theorem TwoG.right {w : World} {x y : Int} {a c d : Option Value} {W : World} (h : TwoG w x y a none c d W) : TwoG w x y a (some (.pointer (some ⟨W.heap.size, 0, none⟩))) c d (W.alloc (.cells #[.bool false, .slice none 0 0] 50)) := by
  have h' := h.stay (below_al (Below.refl _ _) (.cells #[.bool false, .slice none 0 0] 50))
  refine ⟨h'.be, h'.l, ?_, ?_, h'.ca, fun _ => rfl⟩
  · intro v e; cases e
    exact ⟨_, _, _, _, _, rfl, h.be.size, BW.new W false none 0 0, fun hc => by have := h.db hc; cases this⟩
  · intro v u e e' he
    cases e'
    obtain ⟨k, s, A, n, m, h1, _, h2, _⟩ := h.l v e
    rw [h1] at he
    cases he
    have := h2.lt
    omega
theorem TwoG.stl {w : World} {x y : Int} {a b c d : Option Value} {W : World} {k : Nat} (h : TwoG w x y a b c d W) (ha : a = some (.pointer (some ⟨k, 0, none⟩))) {s : Bool} {A : Option Addr} {n m : Nat} (hw : Wd W (.agg #[.bool s, .slice A n m]) x 100) (v : Value) : TwoG w x y a b (some v) d (stW W k s A n m) := by
  obtain ⟨k', s0, A0, n0, m0, h1, h2, h3, _⟩ := h.l _ ha
  cases h1
  refine ⟨below_set (below_set h.be k 0 _ h2) k 1 _ h2, ?_, ?_, h.ne, fun _ => by rw [ha]; rfl, h.db⟩
  · intro u e
    rw [ha] at e
    cases e
    exact ⟨k, s, A, n, m, rfl, h2, h3.st s A n m, fun _ => hw.st h3 s A n m⟩
  · intro u e
    obtain ⟨k2, s1, A1, n1, m1, g1, g2, g3, g4⟩ := h.r u e
    have hne : k2 ≠ k := by intro e2; exact h.ne _ _ ha e (by rw [g1, e2])
    exact ⟨k2, s1, A1, n1, m1, g1, g2, g3.keep (chg_st W k s A n m) hne, fun hd => (g4 hd).st h3 s A n m⟩
theorem TwoG.str {w : World} {x y : Int} {a b c d : Option Value} {W : World} {k : Nat} (h : TwoG w x y a b c d W) (hb : b = some (.pointer (some ⟨k, 0, none⟩))) {s : Bool} {A : Option Addr} {n m : Nat} (hw : Wd W (.agg #[.bool s, .slice A n m]) y 200) (v : Value) : TwoG w x y a b c (some v) (stW W k s A n m) := by
  obtain ⟨k', s0, A0, n0, m0, h1, h2, h3, _⟩ := h.r _ hb
  cases h1
  refine ⟨below_set (below_set h.be k 0 _ h2) k 1 _ h2, ?_, ?_, h.ne, h.ca, fun _ => by rw [hb]; rfl⟩
  · intro u e
    obtain ⟨k2, s1, A1, n1, m1, g1, g2, g3, g4⟩ := h.l u e
    have hne : k2 ≠ k := by intro e2; exact h.ne _ _ e hb (by rw [g1, e2])
    exact ⟨k2, s1, A1, n1, m1, g1, g2, g3.keep (chg_st W k s A n m) hne, fun hd => (g4 hd).st h3 s A n m⟩
  · intro u e
    rw [hb] at e
    cases e
    exact ⟨k, s, A, n, m, rfl, h2, h3.st s A n m, fun _ => hw.st h3 s A n m⟩
set_option maxRecDepth 100000 in
set_option maxHeartbeats 8000000 in
theorem wideal (A : Option Addr) (n c : Nat) (xs : List Int) (i q : Nat) (quanta : Int) (hmx : max quanta 0 = (q : Int)) (w : World) (hr : Rds w 1 A n c (nums .i64 xs)) (hi : i < xs.length) (hv : allV xs i = true) (hq : q < 9223372036854775808) :
    Calls Try.prog 12 #[.slice A n c, .int .i64 i, .int .i64 quanta] w fun e w' => e = .returned (.tuple #[.int .i64 (idQ xs i q), .int .i64 (idR xs i q)]) ∧ Below w.heap.size w w' := by
  have HA := Lib.hid (wall A n c xs i w hr)
  rw [hv] at HA
  obtain ⟨h1, h2, h3, h4⟩ := allV_iff.1 hv
  have hn : xs.length = n := by have := hr.len; rw [nums_length] at this; omega
  obtain ⟨ad, rfl⟩ := hr.some_ (by omega)
  have hc := hr.cell ad rfl i _ (nums_get .i64 xs i hi)
  have hti := h4 xs[i] (List.getElem_mem hi)
  have hsb := sumF_in (xs := xs) (f := id) (M := 65536) (fun x hx => by have := h4 x hx; simp only [id]; omega)
  have hts := le_sumF (fun x hx => by have := h4 x hx; omega) xs[i] (List.getElem_mem hi)
  have hget : xs.getD i 0 = xs[i] := by simp [List.getD_eq_getElem?_getD, hi]
  unfold idQ idR
  rw [hget]
  obtain ⟨t, ht⟩ : ∃ t : Nat, xs[i] = t := ⟨xs[i].toNat, by omega⟩
  obtain ⟨Tt, hT⟩ : ∃ Tt : Nat, sumF id xs = Tt := ⟨(sumF id xs).toNat, by omega⟩
  rw [ht] at hti hts hc ⊢
  rw [hT] at hsb hts ⊢
  simp only [Int.toNat_natCast]
  have htT : t ≤ Tt := by omega
  have ht1 : 1 ≤ t := by omega
  have hTl : Tt ≤ 2097152 := by omega
  have hQ : q * t / Tt ≤ q := by
    have : q * t / Tt ≤ q * Tt / Tt := Nat.div_le_div_right (Nat.mul_le_mul_left _ htT)
    rw [Nat.mul_div_cancel _ (by omega)] at this
    exact this
  have hR : q * t % Tt < Tt := Nat.mod_lt _ (by omega)
  have H1 := Lib.hid (fun W => dOf q W (by unfold I64; omega))
  have H2 := Lib.hid (fun W => dOf t W (by unfold I64; omega))
  have H3 := Lib.hid (fun W => dOf Tt W (by unfold I64; omega))
  have HTT := Lib.hid hT
  have H4 := Lib.hid h4
  have HN := Lib.hid hn
  have HP : Hid (∀ v u N W, Wd W v ((q : Int) * t) N → Wd W u Tt 4 → N ≤ 20 → Calls Try.prog 32 #[v, u] W fun e w' => (∃ r, e = .returned r ∧ Pair2 w' r ((q * t / Tt : Nat) : Int) ((q * t % Tt : Nat) : Int)) ∧ Below W.heap.size W w') := by
    intro v u N W hv hu hN
    refine (dParted v u ((q : Int) * t) Tt N 4 W hv hu (by omega) hN (by omega)).mono ?_
    rintro e w' ⟨⟨r1, r2, Q, rfl, hw1, hw2, p1, p2⟩, hb⟩
    have hDR : DivR ((q : Int) * t) Tt Q ((q : Int) * t + -(Q * Tt)) := ⟨by omega, p1, p2⟩
    have e1 := hDR.floor (by omega)
    have e2 : ((q * t / Tt : Nat) : Int) = Q := by rw [← e1]; simp
    have e3 : ((q * t % Tt : Nat) : Int) = (q : Int) * t + -(Q * Tt) := by
      have h9 := Nat.div_add_mod (q * t) Tt
      have h10 : ((q * t % Tt : Nat) : Int) = (q * t : Nat) - Tt * (q * t / Tt : Nat) := by omega
      rw [h10, e2, Int.natCast_mul, Int.mul_comm (Tt : Int) Q]
      omega
    rw [e2, e3]
    exact ⟨⟨_, rfl, r1, r2, rfl, hw1, hw2⟩, hb⟩
  have HI : Hid (∀ v z N W (_ : Wd W v z N) (_ : I64 z), Calls Try.prog 35 #[v] W fun e w' => (∃ b, e = .returned (.tuple #[.int .i64 z, .bool b])) ∧ Below W.heap.size W w') := by
    intro v z N W h hz
    refine (dInt v z N W h).mono ?_
    rintro e w' ⟨⟨r, rfl, h1⟩, hb⟩
    rw [h1 hz]
    exact ⟨⟨_, rfl⟩, hb⟩
  have HQL := Lib.hid hQ
  have HRL := Lib.hid hR
  have HTL := Lib.hid hTl
  have HQ9 := Lib.hid hq
  have hi1 : (i : Int) < n := by omega
  have h32 : n ≤ 32 := by omega
  have hq2 : quanta < 0 ∨ quanta = q := by omega
  have hqz : quanta < 0 → (q : Int) = 0 := by omega
  have HQZ := Lib.hid hqz
  clear hv h1 h2 h3 h4 hn hti hsb hts hget ht hT htT ht1 hTl hQ hR hqz hmx hq
  generalize q * t / Tt = Q at *
  generalize q * t % Tt = R at *
  generalize xs[i] = xi at *
  have HFQ : Hid (I64 (Q : Int)) := by have := HQL.out; have := HQ9.out; show I64 _; unfold I64; omega
  have HFR : Hid (I64 (R : Int)) := by have := HRL.out; have := HTL.out; show I64 _; unfold I64; omega
  rcases hq2 with hq2 | rfl
  · have hq0 := HQZ.out hq2
    have H1z : ∀ W, Calls Try.prog 34 #[.int .i64 0] W fun e w' => (∃ v, e = .returned v ∧ Wd w' v (q : Int) 4) ∧ Below W.heap.size W w' := by
      have h := H1.out
      rw [hq0] at h ⊢
      exact h
    have H1Z := Lib.hid H1z
    clear H1z hq0
    go_enter Try.func12, Try.ntmps12
    go_wp2_with (go_at_call 31; (with_reducible refine HA.out.mono ?_); rintro e w1 ⟨rfl, rfl⟩)
    go_loopw [8, 25] (fun sv iv wr => ∃ (j : Nat) (s : Int), j ≤ n ∧ iv = .int .i64 j ∧ sv = .int .i64 s ∧ w = wr ∧ Hid (s = sumF id (xs.take j)) ∧ 0 ≤ s ∧ s ≤ (j : Int) * 65536) (fun _ iv _ => n - (intOf iv).toNat)
    case atStart => exact ⟨0, 0, Nat.zero_le _, rfl, rfl, rfl, by show _ = _; simp [sumF], by omega, by omega⟩
    case round =>
      obtain ⟨j, s, hj, rfl, rfl, rfl, HJ, hs0, hs1⟩ := hrel
      by_cases hlt : j < n
      · have hjx : j < xs.length := by rw [HN.out]; exact hlt
        have hcj := hr.cell ad rfl j _ (nums_get .i64 xs j hjx)
        have hxj := H4.out xs[j] (List.getElem_mem hjx)
        have hsn : sumF id (xs.take (j + 1)) = s + xs[j] := by rw [List.take_succ_eq_append_getElem hjx, sumF_snoc, ← HJ.out]; rfl
        have HSN := Lib.hid hsn.symm
        generalize xs[j] = y at *
        obtain ⟨y0, y1⟩ := hxj
        have hs32 : s ≤ 4000000 := by omega
        clear hsn
        go_wp2
        go_roundw
        case rel => exact ⟨j + 1, _, by omega, by go_num, rfl, trivial, HSN.out, by omega, by omega⟩
        case measure => simp only [intOf]; omega
      · obtain rfl : j = n := by omega
        have h := HJ.out
        rw [List.take_of_length_le (by rw [HN.out]; exact Nat.le_refl _), HTT.out] at h
        subst h
        clear HJ
        go_wp2
        obtain ⟨S_, hS_⟩ : ∃ S_ : World → World → Prop, S_ = (SW) := ⟨_, rfl⟩
        have hR_ : ∀ W, S_ W W := by intro W; rw [hS_]; exact .inl (Below.refl _ _)
        obtain ⟨T, hT⟩ : ∃ T : Nat → FactS S_, ∀ t_, T t_ = ([FactS.eq (.int .i64 0), FWdS S_ (by intro W W' h; rwa [hS_] at h) q 4, FactS.eq (.slice (some ad) j c), FactS.eq (.int .i64 i), FactS.eq (.pointer (some (ad.add i))), FactS.eq (.int .i64 t), FWdS S_ (by intro W W' h; rwa [hS_] at h) t 4, FWdS S_ (by intro W W' h; rwa [hS_] at h) ((q : Int) * t) 9, FactS.eq (.int .i64 Tt), FWdS S_ (by intro W W' h; rwa [hS_] at h) Tt 4, FPairS S_ (by intro W W' h; rwa [hS_] at h) Q R, FPairS S_ (by intro W W' h; rwa [hS_] at h) Q R, FWdS S_ (by intro W W' h; rwa [hS_] at h) Q 100, FWdS S_ (by intro W W' h; rwa [hS_] at h) R 200, FactS.any, FactS.any, FactS.eq (undef), FactS.eq (undef)] : List (FactS S_)).getD t_ FactS.any := ⟨_, fun _ => rfl⟩
        have hP_ : ∀ i_ v_ (y_ : Nat → Option Value) W_, ([14, 15, 16, 17].contains i_) = false → (TwoG w Q R) (y_ 14) (y_ 15) (y_ 16) (y_ 17) W_ → (TwoG w Q R) (updY y_ i_ v_ 14) (updY y_ i_ v_ 15) (updY y_ i_ v_ 16) (updY y_ i_ v_ 17) W_ := by
          intro i_ v_ y_ W_ hi_ h_
          simp only [List.contains_cons, List.contains_nil, Bool.or_false, Bool.or_eq_false_iff, beq_eq_false_iff_ne, ne_eq] at hi_
          obtain ⟨i14_, i15_, i16_, i17_⟩ := hi_
          rw [updY_ne y_ i_ v_ i14_, updY_ne y_ i_ v_ i15_, updY_ne y_ i_ v_ i16_, updY_ne y_ i_ v_ i17_]
          exact h_
        refine region_tabJ [(0, 34), (1, 35), (2, 36), (3, 37), (4, 38), (5, 39), (6, 40), (7, 41), (8, 42), (9, 43), (10, 44), (11, 33), (12, 45), (13, 46), (14, 11), (15, 12)] S_ T (fun y_ W_ => (TwoG w Q R) (y_ 14) (y_ 15) (y_ 16) (y_ 17) W_) (by kernel_rfl) (by kernel_rfl) (by kernel_rfl) (by kernel_rfl) (by kernel_rfl) ?_ ?_ ?_
        · skip
          exact ⟨below_dr (Below.refl _ _) 1, (fun v e => by cases e), (fun v e => by cases e), (fun v u e => by cases e), (fun e => by cases e), (fun e => by cases e)⟩
        · skip
          refine stepsAll_cons (k := 0) ?_ ?_
          · intro fa fx fW fy hF hN hJ hE K fK
            have hJ : (TwoG w Q R) (fy 14) (fy 15) (fy 16) (fy 17) fW := hJ
            have ev2 : fa.tmps[2]?.getD undef = .int .i64 0 := hF.eo 2 (by kernel_rfl)
            refine wpOp_val rfl (wanted_none rfl) ?_ (fK (.int .i64 0) fW (hR_ fW) (by rw [hT]; exact rfl) (hP_ 0 _ fy fW rfl hJ))
            clear fK hE hF hJ hN
            go_simp
          refine stepsAll_cons (k := 1) ?_ ?_
          · intro fa fx fW fy hF hN hJ hE K fK
            have hJ : (TwoG w Q R) (fy 14) (fy 15) (fy 16) (fy 17) fW := hJ
            have q0 : fx 0 = .int .i64 0 := by have q := (hE ⟨0, .data⟩ (by simp) rfl).2; rw [hT] at q; exact q
            have ev34 : fa.tmps[34]?.getD undef = .int .i64 0 := (hF.ev 0 34 (by kernel_rfl)).trans q0
            refine wpOp_call rfl (wanted_none rfl) (by go_simp; exact ⟨rfl, rfl⟩) ?_
            refine (H1Z.out fW).mono ?_
            rintro e w' ⟨⟨v6, rfl, hs6⟩, hbb⟩
            exact ⟨_, rfl, fK (v6) (w') (hS_ ▸ (Or.inl hbb : SW fW w')) (by rw [hT]; exact hs6) (hP_ 1 _ fy w' rfl (hJ.stay hbb))⟩
          refine stepsAll_cons (k := 2) ?_ ?_
          · intro fa fx fW fy hF hN hJ hE K fK
            have hJ : (TwoG w Q R) (fy 14) (fy 15) (fy 16) (fy 17) fW := hJ
            have ev0 : fa.tmps[0]?.getD undef = .slice (some ad) j c := hF.eo 0 (by kernel_rfl)
            refine wpOp_val rfl (wanted_none rfl) ?_ (fK (.slice (some ad) j c) fW (hR_ fW) (by rw [hT]; exact rfl) (hP_ 2 _ fy fW rfl hJ))
            clear fK hE hF hJ hN
            go_simp
          refine stepsAll_cons (k := 3) ?_ ?_
          · intro fa fx fW fy hF hN hJ hE K fK
            have hJ : (TwoG w Q R) (fy 14) (fy 15) (fy 16) (fy 17) fW := hJ
            have ev1 : fa.tmps[1]?.getD undef = .int .i64 i := hF.eo 1 (by kernel_rfl)
            refine wpOp_val rfl (wanted_none rfl) ?_ (fK (.int .i64 i) fW (hR_ fW) (by rw [hT]; exact rfl) (hP_ 3 _ fy fW rfl hJ))
            clear fK hE hF hJ hN
            go_simp
          refine stepsAll_cons (k := 4) ?_ ?_
          · intro fa fx fW fy hF hN hJ hE K fK
            have hJ : (TwoG w Q R) (fy 14) (fy 15) (fy 16) (fy 17) fW := hJ
            have q2 : fx 2 = .slice (some ad) j c := by have q := (hE ⟨2, .data⟩ (by simp) rfl).2; rw [hT] at q; exact q
            have q3 : fx 3 = .int .i64 i := by have q := (hE ⟨3, .data⟩ (by simp) rfl).2; rw [hT] at q; exact q
            have ev36 : fa.tmps[36]?.getD undef = .slice (some ad) j c := (hF.ev 2 36 (by kernel_rfl)).trans q2
            have ev37 : fa.tmps[37]?.getD undef = .int .i64 i := (hF.ev 3 37 (by kernel_rfl)).trans q3
            refine wpOp_val rfl (wanted_none rfl) ?_ (fK (.pointer (some (ad.add i))) fW (hR_ fW) (by rw [hT]; exact rfl) (hP_ 4 _ fy fW rfl hJ))
            clear fK hE hF hJ hN
            go_simp
          refine stepsAll_cons (k := 5) ?_ ?_
          · intro fa fx fW fy hF hN hJ hE K fK
            have hJ : (TwoG w Q R) (fy 14) (fy 15) (fy 16) (fy 17) fW := hJ
            have q4 : fx 4 = .pointer (some (ad.add i)) := by have q := (hE ⟨4, .data⟩ (by simp) rfl).2; rw [hT] at q; exact q
            have ev38 : fa.tmps[38]?.getD undef = .pointer (some (ad.add i)) := (hF.ev 4 38 (by kernel_rfl)).trans q4
            have z := cell_below hJ.be hc
            refine wpOp_val rfl (wanted_none rfl) ?_ (fK (.int .i64 t) fW (hR_ fW) (by rw [hT]; exact rfl) (hP_ 5 _ fy fW rfl hJ))
            clear fK hE hF hJ hN
            go_simp
          refine stepsAll_cons (k := 6) ?_ ?_
          · intro fa fx fW fy hF hN hJ hE K fK
            have hJ : (TwoG w Q R) (fy 14) (fy 15) (fy 16) (fy 17) fW := hJ
            have q5 : fx 5 = .int .i64 t := by have q := (hE ⟨5, .data⟩ (by simp) rfl).2; rw [hT] at q; exact q
            have ev39 : fa.tmps[39]?.getD undef = .int .i64 t := (hF.ev 5 39 (by kernel_rfl)).trans q5
            refine wpOp_call rfl (wanted_none rfl) (by go_simp; exact ⟨rfl, rfl⟩) ?_
            refine (H2.out fW).mono ?_
            rintro e w' ⟨⟨v6, rfl, hs6⟩, hbb⟩
            exact ⟨_, rfl, fK (v6) (w') (hS_ ▸ (Or.inl hbb : SW fW w')) (by rw [hT]; exact hs6) (hP_ 6 _ fy w' rfl (hJ.stay hbb))⟩
          refine stepsAll_cons (k := 7) ?_ ?_
          · intro fa fx fW fy hF hN hJ hE K fK
            have hJ : (TwoG w Q R) (fy 14) (fy 15) (fy 16) (fy 17) fW := hJ
            have q1 : (FWdS S_ (by intro W W' h; rwa [hS_] at h) q 4 : FactS S_).p (fx 1) fW := by have q := (hE ⟨1, .data⟩ (by simp) rfl).2; rw [hT] at q; exact q
            have q6 : (FWdS S_ (by intro W W' h; rwa [hS_] at h) t 4 : FactS S_).p (fx 6) fW := by have q := (hE ⟨6, .data⟩ (by simp) rfl).2; rw [hT] at q; exact q
            have ev35 : fa.tmps[35]?.getD undef = fx 1 := hF.ev 1 35 (by kernel_rfl)
            have ev40 : fa.tmps[40]?.getD undef = fx 6 := hF.ev 6 40 (by kernel_rfl)
            refine wpOp_call rfl (wanted_none rfl) (by go_simp; exact ⟨rfl, rfl⟩) ?_
            refine (dTimes _ _ (q : Int) t 4 4 fW q1 q6 (by omega) (by omega)).mono ?_
            rintro e w' ⟨⟨v6, rfl, hs6⟩, hbb⟩
            exact ⟨_, rfl, fK (v6) (w') (hS_ ▸ (Or.inl hbb : SW fW w')) (by rw [hT]; exact hs6) (hP_ 7 _ fy w' rfl (hJ.stay hbb))⟩
          refine stepsAll_cons (k := 8) ?_ ?_
          · intro fa fx fW fy hF hN hJ hE K fK
            have hJ : (TwoG w Q R) (fy 14) (fy 15) (fy 16) (fy 17) fW := hJ
            have ev8 : fa.tmps[8]?.getD undef = .int .i64 Tt := hF.eo 8 (by kernel_rfl)
            refine wpOp_val rfl (wanted_none rfl) ?_ (fK (.int .i64 Tt) fW (hR_ fW) (by rw [hT]; exact rfl) (hP_ 8 _ fy fW rfl hJ))
            clear fK hE hF hJ hN
            go_simp
          refine stepsAll_cons (k := 9) ?_ ?_
          · intro fa fx fW fy hF hN hJ hE K fK
            have hJ : (TwoG w Q R) (fy 14) (fy 15) (fy 16) (fy 17) fW := hJ
            have q8 : fx 8 = .int .i64 Tt := by have q := (hE ⟨8, .data⟩ (by simp) rfl).2; rw [hT] at q; exact q
            have ev42 : fa.tmps[42]?.getD undef = .int .i64 Tt := (hF.ev 8 42 (by kernel_rfl)).trans q8
            refine wpOp_call rfl (wanted_none rfl) (by go_simp; exact ⟨rfl, rfl⟩) ?_
            refine (H3.out fW).mono ?_
            rintro e w' ⟨⟨v6, rfl, hs6⟩, hbb⟩
            exact ⟨_, rfl, fK (v6) (w') (hS_ ▸ (Or.inl hbb : SW fW w')) (by rw [hT]; exact hs6) (hP_ 9 _ fy w' rfl (hJ.stay hbb))⟩
          refine stepsAll_cons (k := 10) ?_ ?_
          · intro fa fx fW fy hF hN hJ hE K fK
            have hJ : (TwoG w Q R) (fy 14) (fy 15) (fy 16) (fy 17) fW := hJ
            have q7 : (FWdS S_ (by intro W W' h; rwa [hS_] at h) ((q : Int) * t) 9 : FactS S_).p (fx 7) fW := by have q := (hE ⟨7, .data⟩ (by simp) rfl).2; rw [hT] at q; exact q
            have q9 : (FWdS S_ (by intro W W' h; rwa [hS_] at h) Tt 4 : FactS S_).p (fx 9) fW := by have q := (hE ⟨9, .data⟩ (by simp) rfl).2; rw [hT] at q; exact q
            have ev41 : fa.tmps[41]?.getD undef = fx 7 := hF.ev 7 41 (by kernel_rfl)
            have ev43 : fa.tmps[43]?.getD undef = fx 9 := hF.ev 9 43 (by kernel_rfl)
            refine wpOp_call rfl (wanted_none rfl) (by go_simp; exact ⟨rfl, rfl⟩) ?_
            refine (HP.out _ _ 9 fW q7 q9 (by omega)).mono ?_
            rintro e w' ⟨⟨v6, rfl, hs6⟩, hbb⟩
            exact ⟨_, rfl, fK (v6) (w') (hS_ ▸ (Or.inl hbb : SW fW w')) (by rw [hT]; exact hs6) (hP_ 10 _ fy w' rfl (hJ.stay hbb))⟩
          refine stepsAll_cons (k := 11) ?_ ?_
          · intro fa fx fW fy hF hN hJ hE K fK
            have hJ : (TwoG w Q R) (fy 14) (fy 15) (fy 16) (fy 17) fW := hJ
            have q10 : (FPairS S_ (by intro W W' h; rwa [hS_] at h) Q R : FactS S_).p (fx 10) fW := by have q := (hE ⟨10, .data⟩ (by simp) rfl).2; rw [hT] at q; exact q
            have ev44 : fa.tmps[44]?.getD undef = fx 10 := hF.ev 10 44 (by kernel_rfl)
            refine wpOp_val rfl (wanted_none rfl) ?_ (fK (fx 10) fW (hR_ fW) (by rw [hT]; exact q10) (hP_ 11 _ fy fW rfl hJ))
            clear fK hE hF hJ hN
            go_simp
          refine stepsAll_cons (k := 12) ?_ ?_
          · intro fa fx fW fy hF hN hJ hE K fK
            have hJ : (TwoG w Q R) (fy 14) (fy 15) (fy 16) (fy 17) fW := hJ
            have q11 : (FPairS S_ (by intro W W' h; rwa [hS_] at h) Q R : FactS S_).p (fx 11) fW := by have q := (hE ⟨11, .data⟩ (by simp) rfl).2; rw [hT] at q; exact q
            have ev33 : fa.tmps[33]?.getD undef = fx 11 := hF.ev 11 33 (by kernel_rfl)
            obtain ⟨r1, r2, e11, hr1, hr2⟩ := q11
            rw [e11] at ev33
            refine wpOp_val rfl (wanted_none rfl) ?_ (fK r1 fW (hR_ fW) (by rw [hT]; exact hr1) (hP_ 12 _ fy fW rfl hJ))
            clear fK hE hF hJ hN
            go_simp
          refine stepsAll_cons (k := 13) ?_ ?_
          · intro fa fx fW fy hF hN hJ hE K fK
            have hJ : (TwoG w Q R) (fy 14) (fy 15) (fy 16) (fy 17) fW := hJ
            have q11 : (FPairS S_ (by intro W W' h; rwa [hS_] at h) Q R : FactS S_).p (fx 11) fW := by have q := (hE ⟨11, .data⟩ (by simp) rfl).2; rw [hT] at q; exact q
            have ev33 : fa.tmps[33]?.getD undef = fx 11 := hF.ev 11 33 (by kernel_rfl)
            obtain ⟨r1, r2, e11, hr1, hr2⟩ := q11
            rw [e11] at ev33
            refine wpOp_val rfl (wanted_none rfl) ?_ (fK r2 fW (hR_ fW) (by rw [hT]; exact hr2) (hP_ 13 _ fy fW rfl hJ))
            clear fK hE hF hJ hN
            go_simp
          refine stepsAll_cons (k := 14) ?_ ?_
          · intro fa fx fW fy hF hN hJ hE K fK
            have hJ : (TwoG w Q R) (fy 14) (fy 15) (fy 16) (fy 17) fW := hJ
            refine wpOp_to rfl (wanted_none rfl) (v := .pointer (some ⟨fW.heap.size, 0, none⟩)) (W' := fW.alloc (.cells #[.bool false, .slice none 0 0] 50)) ?_ (fK _ _ (by rw [hS_]; exact .inl (below_al (Below.refl _ _) _)) (by rw [hT]; exact trivial) ?_)
            · clear fK hE hF hJ hN
              go_simp
            · rw [hN] at hJ
              exact hJ.left
          refine stepsAll_cons (k := 15) ?_ ?_
          · intro fa fx fW fy hF hN hJ hE K fK
            have hJ : (TwoG w Q R) (fy 14) (fy 15) (fy 16) (fy 17) fW := hJ
            refine wpOp_to rfl (wanted_none rfl) (v := .pointer (some ⟨fW.heap.size, 0, none⟩)) (W' := fW.alloc (.cells #[.bool false, .slice none 0 0] 50)) ?_ (fK _ _ (by rw [hS_]; exact .inl (below_al (Below.refl _ _) _)) (by rw [hT]; exact trivial) ?_)
            · clear fK hE hF hJ hN
              go_simp
            · rw [hN] at hJ
              exact hJ.right
          refine stepsAll_cons (k := 16) ?_ ?_
          · intro fa fx fW fy hF hN hJ hE K fK
            have hJ : (TwoG w Q R) (fy 14) (fy 15) (fy 16) (fy 17) fW := hJ
            have q12 : (FWdS S_ (by intro W W' h; rwa [hS_] at h) Q 100 : FactS S_).p (fx 12) fW := by have q := (hE ⟨12, .data⟩ (by simp) rfl).2; rw [hT] at q; exact q
            have q14 : (FactS.any : FactS S_).p (fx 14) fW := by have q := (hE ⟨14, .data⟩ (by simp) rfl).2; rw [hT] at q; exact q
            have y14 : fy 14 = some (fx 14) := (hE ⟨14, .data⟩ (by simp) rfl).1
            have ev45 : fa.tmps[45]?.getD undef = fx 12 := hF.ev 12 45 (by kernel_rfl)
            have ev11 : fa.tmps[11]?.getD undef = fx 14 := hF.ev 14 11 (by kernel_rfl)
            have hJ0 := hJ
            rw [y14] at hJ
            obtain ⟨k1, s0, A0, n0, m0, g1, l1, bw1, _⟩ := hJ.l _ rfl
            obtain ⟨s1, A1, n1, c1, e12, hw1⟩ := Wd.openS q12
            rw [e12] at ev45
            rw [g1] at ev11 hJ
            have i0 := bw1.c0
            have i1 := bw1.c1
            have f0 := bw1.f0 0
            have f1 := bw1.f0 1
            refine wpOp_done rfl (wanted_none rfl) (W' := (fW.setCell ⟨k1, 0, none⟩ (.bool s1)).setCell ⟨k1, 1, none⟩ (.slice A1 n1 c1)) ?_ (fK undef _ (by rw [hS_]; exact .inr ⟨k1, _, _, _, _, s1, A1, n1, c1, bw1, rfl⟩) (by rw [hT]; exact rfl) ?_)
            · clear fK hE hF hJ hJ0 hN hw1 bw1
              go_simp
            · have h9 := hJ.stl rfl hw1 undef
              rw [← g1, ← y14] at h9
              exact h9
          refine stepsAll_cons (k := 17) ?_ ?_
          · intro fa fx fW fy hF hN hJ hE K fK
            have hJ : (TwoG w Q R) (fy 14) (fy 15) (fy 16) (fy 17) fW := hJ
            have q13 : (FWdS S_ (by intro W W' h; rwa [hS_] at h) R 200 : FactS S_).p (fx 13) fW := by have q := (hE ⟨13, .data⟩ (by simp) rfl).2; rw [hT] at q; exact q
            have q15 : (FactS.any : FactS S_).p (fx 15) fW := by have q := (hE ⟨15, .data⟩ (by simp) rfl).2; rw [hT] at q; exact q
            have y15 : fy 15 = some (fx 15) := (hE ⟨15, .data⟩ (by simp) rfl).1
            have ev46 : fa.tmps[46]?.getD undef = fx 13 := hF.ev 13 46 (by kernel_rfl)
            have ev12 : fa.tmps[12]?.getD undef = fx 15 := hF.ev 15 12 (by kernel_rfl)
            have hJ0 := hJ
            rw [y15] at hJ
            obtain ⟨k1, s0, A0, n0, m0, g1, l1, bw1, _⟩ := hJ.r _ rfl
            obtain ⟨s1, A1, n1, c1, e12, hw1⟩ := Wd.openS q13
            rw [e12] at ev46
            rw [g1] at ev12 hJ
            have i0 := bw1.c0
            have i1 := bw1.c1
            have f0 := bw1.f0 0
            have f1 := bw1.f0 1
            refine wpOp_done rfl (wanted_none rfl) (W' := (fW.setCell ⟨k1, 0, none⟩ (.bool s1)).setCell ⟨k1, 1, none⟩ (.slice A1 n1 c1)) ?_ (fK undef _ (by rw [hS_]; exact .inr ⟨k1, _, _, _, _, s1, A1, n1, c1, bw1, rfl⟩) (by rw [hT]; exact rfl) ?_)
            · clear fK hE hF hJ hJ0 hN hw1 bw1
              go_simp
            · have h9 := hJ.str rfl hw1 undef
              rw [← g1, ← y15] at h9
              exact h9
          exact stepsAll_nil
        intro fa fx fW fy hF hJ0 hx
        have y14 : fy 14 = some (fx 14) := (hx 14 (by decide)).1
        have y15 : fy 15 = some (fx 15) := (hx 15 (by decide)).1
        have y16 : fy 16 = some (fx 16) := (hx 16 (by decide)).1
        have y17 : fy 17 = some (fx 17) := (hx 17 (by decide)).1
        have hJ : (TwoG w Q R) (fy 14) (fy 15) (fy 16) (fy 17) fW := hJ0
        clear hJ0
        rw [y14, y15, y16, y17] at hJ
        rw [hF.eq]
        clear hF hx hT T hP_ hR_ y14 y15 y16 y17
        simp only [putAll, Act.put, List.setIfInBounds_toArray, List.set_cons_zero, List.set_cons_succ, ]
        obtain ⟨k1, s1, A1, n1, c1, g1, l1, x1, hwd1⟩ := hJ.l _ rfl
        obtain ⟨k2, s2, A2, n2, c2, g2, l2, x2, hwd2⟩ := hJ.r _ rfl
        have hwd1 := hwd1 rfl
        have hwd2 := hwd2 rfl
        have hB5 := hJ.be
        rw [g1, g2]
        have HI1 := Lib.hid (HI.out _ _ _ _ hwd1 HFQ.out)
        have HI2 := Lib.hid (fun W (h : Wd W (.agg #[.bool s2, .slice A2 n2 c2]) (R : Int) 200) => HI.out _ _ _ W h HFR.out)
        have z0 := x1.c0
        have z1 := x1.c1
        clear g1 g2 hJ
        go_wp2_with (go_at_call 35; (with_reducible refine HI1.out.mono ?_); rintro e w5 ⟨⟨b5, rfl⟩, hb5⟩; have x3 := x2.below hb5; have y0 := x3.c0; have y1 := x3.c1)
        go_wp2_with (go_at_call 35; (with_reducible refine (HI2.out _ (hwd2.below hb5)).mono ?_); rintro e w6 ⟨⟨b6, rfl⟩, hb6⟩)
        go_ret2
        exact ⟨rfl, below_tr (below_tr hB5 hb5) hb6⟩
  · have hqn : ¬ (q : Int) < 0 := by omega
    go_enter Try.func12, Try.ntmps12
    go_wp2_with (go_at_call 31; (with_reducible refine HA.out.mono ?_); rintro e w1 ⟨rfl, rfl⟩)
    go_loopw [8, 25] (fun sv iv wr => ∃ (j : Nat) (s : Int), j ≤ n ∧ iv = .int .i64 j ∧ sv = .int .i64 s ∧ w = wr ∧ Hid (s = sumF id (xs.take j)) ∧ 0 ≤ s ∧ s ≤ (j : Int) * 65536) (fun _ iv _ => n - (intOf iv).toNat)
    case atStart => exact ⟨0, 0, Nat.zero_le _, rfl, rfl, rfl, by show _ = _; simp [sumF], by omega, by omega⟩
    case round =>
      obtain ⟨j, s, hj, rfl, rfl, rfl, HJ, hs0, hs1⟩ := hrel
      by_cases hlt : j < n
      · have hjx : j < xs.length := by rw [HN.out]; exact hlt
        have hcj := hr.cell ad rfl j _ (nums_get .i64 xs j hjx)
        have hxj := H4.out xs[j] (List.getElem_mem hjx)
        have hsn : sumF id (xs.take (j + 1)) = s + xs[j] := by rw [List.take_succ_eq_append_getElem hjx, sumF_snoc, ← HJ.out]; rfl
        have HSN := Lib.hid hsn.symm
        generalize xs[j] = y at *
        obtain ⟨y0, y1⟩ := hxj
        have hs32 : s ≤ 4000000 := by omega
        clear hsn
        go_wp2
        go_roundw
        case rel => exact ⟨j + 1, _, by omega, by go_num, rfl, trivial, HSN.out, by omega, by omega⟩
        case measure => simp only [intOf]; omega
      · obtain rfl : j = n := by omega
        have h := HJ.out
        rw [List.take_of_length_le (by rw [HN.out]; exact Nat.le_refl _), HTT.out] at h
        subst h
        clear HJ
        go_wp2
        obtain ⟨S_, hS_⟩ : ∃ S_ : World → World → Prop, S_ = (SW) := ⟨_, rfl⟩
        have hR_ : ∀ W, S_ W W := by intro W; rw [hS_]; exact .inl (Below.refl _ _)
        obtain ⟨T, hT⟩ : ∃ T : Nat → FactS S_, ∀ t_, T t_ = ([FactS.eq (.int .i64 q), FWdS S_ (by intro W W' h; rwa [hS_] at h) q 4, FactS.eq (.slice (some ad) j c), FactS.eq (.int .i64 i), FactS.eq (.pointer (some (ad.add i))), FactS.eq (.int .i64 t), FWdS S_ (by intro W W' h; rwa [hS_] at h) t 4, FWdS S_ (by intro W W' h; rwa [hS_] at h) ((q : Int) * t) 9, FactS.eq (.int .i64 Tt), FWdS S_ (by intro W W' h; rwa [hS_] at h) Tt 4, FPairS S_ (by intro W W' h; rwa [hS_] at h) Q R, FPairS S_ (by intro W W' h; rwa [hS_] at h) Q R, FWdS S_ (by intro W W' h; rwa [hS_] at h) Q 100, FWdS S_ (by intro W W' h; rwa [hS_] at h) R 200, FactS.any, FactS.any, FactS.eq (undef), FactS.eq (undef)] : List (FactS S_)).getD t_ FactS.any := ⟨_, fun _ => rfl⟩
        have hP_ : ∀ i_ v_ (y_ : Nat → Option Value) W_, ([14, 15, 16, 17].contains i_) = false → (TwoG w Q R) (y_ 14) (y_ 15) (y_ 16) (y_ 17) W_ → (TwoG w Q R) (updY y_ i_ v_ 14) (updY y_ i_ v_ 15) (updY y_ i_ v_ 16) (updY y_ i_ v_ 17) W_ := by
          intro i_ v_ y_ W_ hi_ h_
          simp only [List.contains_cons, List.contains_nil, Bool.or_false, Bool.or_eq_false_iff, beq_eq_false_iff_ne, ne_eq] at hi_
          obtain ⟨i14_, i15_, i16_, i17_⟩ := hi_
          rw [updY_ne y_ i_ v_ i14_, updY_ne y_ i_ v_ i15_, updY_ne y_ i_ v_ i16_, updY_ne y_ i_ v_ i17_]
          exact h_
        refine region_tabJ [(0, 34), (1, 35), (2, 36), (3, 37), (4, 38), (5, 39), (6, 40), (7, 41), (8, 42), (9, 43), (10, 44), (11, 33), (12, 45), (13, 46), (14, 11), (15, 12)] S_ T (fun y_ W_ => (TwoG w Q R) (y_ 14) (y_ 15) (y_ 16) (y_ 17) W_) (by kernel_rfl) (by kernel_rfl) (by kernel_rfl) (by kernel_rfl) (by kernel_rfl) ?_ ?_ ?_
        · skip
          exact ⟨below_dr (Below.refl _ _) 1, (fun v e => by cases e), (fun v e => by cases e), (fun v u e => by cases e), (fun e => by cases e), (fun e => by cases e)⟩
        · skip
          refine stepsAll_cons (k := 0) ?_ ?_
          · intro fa fx fW fy hF hN hJ hE K fK
            have hJ : (TwoG w Q R) (fy 14) (fy 15) (fy 16) (fy 17) fW := hJ
            have ev2 : fa.tmps[2]?.getD undef = .int .i64 q := hF.eo 2 (by kernel_rfl)
            refine wpOp_val rfl (wanted_none rfl) ?_ (fK (.int .i64 q) fW (hR_ fW) (by rw [hT]; exact rfl) (hP_ 0 _ fy fW rfl hJ))
            clear fK hE hF hJ hN
            go_simp
          refine stepsAll_cons (k := 1) ?_ ?_
          · intro fa fx fW fy hF hN hJ hE K fK
            have hJ : (TwoG w Q R) (fy 14) (fy 15) (fy 16) (fy 17) fW := hJ
            have q0 : fx 0 = .int .i64 q := by have q := (hE ⟨0, .data⟩ (by simp) rfl).2; rw [hT] at q; exact q
            have ev34 : fa.tmps[34]?.getD undef = .int .i64 q := (hF.ev 0 34 (by kernel_rfl)).trans q0
            refine wpOp_call rfl (wanted_none rfl) (by go_simp; exact ⟨rfl, rfl⟩) ?_
            refine (H1.out fW).mono ?_
            rintro e w' ⟨⟨v6, rfl, hs6⟩, hbb⟩
            exact ⟨_, rfl, fK (v6) (w') (hS_ ▸ (Or.inl hbb : SW fW w')) (by rw [hT]; exact hs6) (hP_ 1 _ fy w' rfl (hJ.stay hbb))⟩
          refine stepsAll_cons (k := 2) ?_ ?_
          · intro fa fx fW fy hF hN hJ hE K fK
            have hJ : (TwoG w Q R) (fy 14) (fy 15) (fy 16) (fy 17) fW := hJ
            have ev0 : fa.tmps[0]?.getD undef = .slice (some ad) j c := hF.eo 0 (by kernel_rfl)
            refine wpOp_val rfl (wanted_none rfl) ?_ (fK (.slice (some ad) j c) fW (hR_ fW) (by rw [hT]; exact rfl) (hP_ 2 _ fy fW rfl hJ))
            clear fK hE hF hJ hN
            go_simp
          refine stepsAll_cons (k := 3) ?_ ?_
          · intro fa fx fW fy hF hN hJ hE K fK
            have hJ : (TwoG w Q R) (fy 14) (fy 15) (fy 16) (fy 17) fW := hJ
            have ev1 : fa.tmps[1]?.getD undef = .int .i64 i := hF.eo 1 (by kernel_rfl)
            refine wpOp_val rfl (wanted_none rfl) ?_ (fK (.int .i64 i) fW (hR_ fW) (by rw [hT]; exact rfl) (hP_ 3 _ fy fW rfl hJ))
            clear fK hE hF hJ hN
            go_simp
          refine stepsAll_cons (k := 4) ?_ ?_
          · intro fa fx fW fy hF hN hJ hE K fK
            have hJ : (TwoG w Q R) (fy 14) (fy 15) (fy 16) (fy 17) fW := hJ
            have q2 : fx 2 = .slice (some ad) j c := by have q := (hE ⟨2, .data⟩ (by simp) rfl).2; rw [hT] at q; exact q
            have q3 : fx 3 = .int .i64 i := by have q := (hE ⟨3, .data⟩ (by simp) rfl).2; rw [hT] at q; exact q
            have ev36 : fa.tmps[36]?.getD undef = .slice (some ad) j c := (hF.ev 2 36 (by kernel_rfl)).trans q2
            have ev37 : fa.tmps[37]?.getD undef = .int .i64 i := (hF.ev 3 37 (by kernel_rfl)).trans q3
            refine wpOp_val rfl (wanted_none rfl) ?_ (fK (.pointer (some (ad.add i))) fW (hR_ fW) (by rw [hT]; exact rfl) (hP_ 4 _ fy fW rfl hJ))
            clear fK hE hF hJ hN
            go_simp
          refine stepsAll_cons (k := 5) ?_ ?_
          · intro fa fx fW fy hF hN hJ hE K fK
            have hJ : (TwoG w Q R) (fy 14) (fy 15) (fy 16) (fy 17) fW := hJ
            have q4 : fx 4 = .pointer (some (ad.add i)) := by have q := (hE ⟨4, .data⟩ (by simp) rfl).2; rw [hT] at q; exact q
            have ev38 : fa.tmps[38]?.getD undef = .pointer (some (ad.add i)) := (hF.ev 4 38 (by kernel_rfl)).trans q4
            have z := cell_below hJ.be hc
            refine wpOp_val rfl (wanted_none rfl) ?_ (fK (.int .i64 t) fW (hR_ fW) (by rw [hT]; exact rfl) (hP_ 5 _ fy fW rfl hJ))
            clear fK hE hF hJ hN
            go_simp
          refine stepsAll_cons (k := 6) ?_ ?_
          · intro fa fx fW fy hF hN hJ hE K fK
            have hJ : (TwoG w Q R) (fy 14) (fy 15) (fy 16) (fy 17) fW := hJ
            have q5 : fx 5 = .int .i64 t := by have q := (hE ⟨5, .data⟩ (by simp) rfl).2; rw [hT] at q; exact q
            have ev39 : fa.tmps[39]?.getD undef = .int .i64 t := (hF.ev 5 39 (by kernel_rfl)).trans q5
            refine wpOp_call rfl (wanted_none rfl) (by go_simp; exact ⟨rfl, rfl⟩) ?_
            refine (H2.out fW).mono ?_
            rintro e w' ⟨⟨v6, rfl, hs6⟩, hbb⟩
            exact ⟨_, rfl, fK (v6) (w') (hS_ ▸ (Or.inl hbb : SW fW w')) (by rw [hT]; exact hs6) (hP_ 6 _ fy w' rfl (hJ.stay hbb))⟩
          refine stepsAll_cons (k := 7) ?_ ?_
          · intro fa fx fW fy hF hN hJ hE K fK
            have hJ : (TwoG w Q R) (fy 14) (fy 15) (fy 16) (fy 17) fW := hJ
            have q1 : (FWdS S_ (by intro W W' h; rwa [hS_] at h) q 4 : FactS S_).p (fx 1) fW := by have q := (hE ⟨1, .data⟩ (by simp) rfl).2; rw [hT] at q; exact q
            have q6 : (FWdS S_ (by intro W W' h; rwa [hS_] at h) t 4 : FactS S_).p (fx 6) fW := by have q := (hE ⟨6, .data⟩ (by simp) rfl).2; rw [hT] at q; exact q
            have ev35 : fa.tmps[35]?.getD undef = fx 1 := hF.ev 1 35 (by kernel_rfl)
            have ev40 : fa.tmps[40]?.getD undef = fx 6 := hF.ev 6 40 (by kernel_rfl)
            refine wpOp_call rfl (wanted_none rfl) (by go_simp; exact ⟨rfl, rfl⟩) ?_
            refine (dTimes _ _ (q : Int) t 4 4 fW q1 q6 (by omega) (by omega)).mono ?_
            rintro e w' ⟨⟨v6, rfl, hs6⟩, hbb⟩
            exact ⟨_, rfl, fK (v6) (w') (hS_ ▸ (Or.inl hbb : SW fW w')) (by rw [hT]; exact hs6) (hP_ 7 _ fy w' rfl (hJ.stay hbb))⟩
          refine stepsAll_cons (k := 8) ?_ ?_
          · intro fa fx fW fy hF hN hJ hE K fK
            have hJ : (TwoG w Q R) (fy 14) (fy 15) (fy 16) (fy 17) fW := hJ
            have ev8 : fa.tmps[8]?.getD undef = .int .i64 Tt := hF.eo 8 (by kernel_rfl)
            refine wpOp_val rfl (wanted_none rfl) ?_ (fK (.int .i64 Tt) fW (hR_ fW) (by rw [hT]; exact rfl) (hP_ 8 _ fy fW rfl hJ))
            clear fK hE hF hJ hN
            go_simp
          refine stepsAll_cons (k := 9) ?_ ?_
          · intro fa fx fW fy hF hN hJ hE K fK
            have hJ : (TwoG w Q R) (fy 14) (fy 15) (fy 16) (fy 17) fW := hJ
            have q8 : fx 8 = .int .i64 Tt := by have q := (hE ⟨8, .data⟩ (by simp) rfl).2; rw [hT] at q; exact q
            have ev42 : fa.tmps[42]?.getD undef = .int .i64 Tt := (hF.ev 8 42 (by kernel_rfl)).trans q8
            refine wpOp_call rfl (wanted_none rfl) (by go_simp; exact ⟨rfl, rfl⟩) ?_
            refine (H3.out fW).mono ?_
            rintro e w' ⟨⟨v6, rfl, hs6⟩, hbb⟩
            exact ⟨_, rfl, fK (v6) (w') (hS_ ▸ (Or.inl hbb : SW fW w')) (by rw [hT]; exact hs6) (hP_ 9 _ fy w' rfl (hJ.stay hbb))⟩
          refine stepsAll_cons (k := 10) ?_ ?_
          · intro fa fx fW fy hF hN hJ hE K fK
            have hJ : (TwoG w Q R) (fy 14) (fy 15) (fy 16) (fy 17) fW := hJ
            have q7 : (FWdS S_ (by intro W W' h; rwa [hS_] at h) ((q : Int) * t) 9 : FactS S_).p (fx 7) fW := by have q := (hE ⟨7, .data⟩ (by simp) rfl).2; rw [hT] at q; exact q
            have q9 : (FWdS S_ (by intro W W' h; rwa [hS_] at h) Tt 4 : FactS S_).p (fx 9) fW := by have q := (hE ⟨9, .data⟩ (by simp) rfl).2; rw [hT] at q; exact q
            have ev41 : fa.tmps[41]?.getD undef = fx 7 := hF.ev 7 41 (by kernel_rfl)
            have ev43 : fa.tmps[43]?.getD undef = fx 9 := hF.ev 9 43 (by kernel_rfl)
            refine wpOp_call rfl (wanted_none rfl) (by go_simp; exact ⟨rfl, rfl⟩) ?_
            refine (HP.out _ _ 9 fW q7 q9 (by omega)).mono ?_
            rintro e w' ⟨⟨v6, rfl, hs6⟩, hbb⟩
            exact ⟨_, rfl, fK (v6) (w') (hS_ ▸ (Or.inl hbb : SW fW w')) (by rw [hT]; exact hs6) (hP_ 10 _ fy w' rfl (hJ.stay hbb))⟩
          refine stepsAll_cons (k := 11) ?_ ?_
          · intro fa fx fW fy hF hN hJ hE K fK
            have hJ : (TwoG w Q R) (fy 14) (fy 15) (fy 16) (fy 17) fW := hJ
            have q10 : (FPairS S_ (by intro W W' h; rwa [hS_] at h) Q R : FactS S_).p (fx 10) fW := by have q := (hE ⟨10, .data⟩ (by simp) rfl).2; rw [hT] at q; exact q
            have ev44 : fa.tmps[44]?.getD undef = fx 10 := hF.ev 10 44 (by kernel_rfl)
            refine wpOp_val rfl (wanted_none rfl) ?_ (fK (fx 10) fW (hR_ fW) (by rw [hT]; exact q10) (hP_ 11 _ fy fW rfl hJ))
            clear fK hE hF hJ hN
            go_simp
          refine stepsAll_cons (k := 12) ?_ ?_
          · intro fa fx fW fy hF hN hJ hE K fK
            have hJ : (TwoG w Q R) (fy 14) (fy 15) (fy 16) (fy 17) fW := hJ
            have q11 : (FPairS S_ (by intro W W' h; rwa [hS_] at h) Q R : FactS S_).p (fx 11) fW := by have q := (hE ⟨11, .data⟩ (by simp) rfl).2; rw [hT] at q; exact q
            have ev33 : fa.tmps[33]?.getD undef = fx 11 := hF.ev 11 33 (by kernel_rfl)
            obtain ⟨r1, r2, e11, hr1, hr2⟩ := q11
            rw [e11] at ev33
            refine wpOp_val rfl (wanted_none rfl) ?_ (fK r1 fW (hR_ fW) (by rw [hT]; exact hr1) (hP_ 12 _ fy fW rfl hJ))
            clear fK hE hF hJ hN
            go_simp
          refine stepsAll_cons (k := 13) ?_ ?_
          · intro fa fx fW fy hF hN hJ hE K fK
            have hJ : (TwoG w Q R) (fy 14) (fy 15) (fy 16) (fy 17) fW := hJ
            have q11 : (FPairS S_ (by intro W W' h; rwa [hS_] at h) Q R : FactS S_).p (fx 11) fW := by have q := (hE ⟨11, .data⟩ (by simp) rfl).2; rw [hT] at q; exact q
            have ev33 : fa.tmps[33]?.getD undef = fx 11 := hF.ev 11 33 (by kernel_rfl)
            obtain ⟨r1, r2, e11, hr1, hr2⟩ := q11
            rw [e11] at ev33
            refine wpOp_val rfl (wanted_none rfl) ?_ (fK r2 fW (hR_ fW) (by rw [hT]; exact hr2) (hP_ 13 _ fy fW rfl hJ))
            clear fK hE hF hJ hN
            go_simp
          refine stepsAll_cons (k := 14) ?_ ?_
          · intro fa fx fW fy hF hN hJ hE K fK
            have hJ : (TwoG w Q R) (fy 14) (fy 15) (fy 16) (fy 17) fW := hJ
            refine wpOp_to rfl (wanted_none rfl) (v := .pointer (some ⟨fW.heap.size, 0, none⟩)) (W' := fW.alloc (.cells #[.bool false, .slice none 0 0] 50)) ?_ (fK _ _ (by rw [hS_]; exact .inl (below_al (Below.refl _ _) _)) (by rw [hT]; exact trivial) ?_)
            · clear fK hE hF hJ hN
              go_simp
            · rw [hN] at hJ
              exact hJ.left
          refine stepsAll_cons (k := 15) ?_ ?_
          · intro fa fx fW fy hF hN hJ hE K fK
            have hJ : (TwoG w Q R) (fy 14) (fy 15) (fy 16) (fy 17) fW := hJ
            refine wpOp_to rfl (wanted_none rfl) (v := .pointer (some ⟨fW.heap.size, 0, none⟩)) (W' := fW.alloc (.cells #[.bool false, .slice none 0 0] 50)) ?_ (fK _ _ (by rw [hS_]; exact .inl (below_al (Below.refl _ _) _)) (by rw [hT]; exact trivial) ?_)
            · clear fK hE hF hJ hN
              go_simp
            · rw [hN] at hJ
              exact hJ.right
          refine stepsAll_cons (k := 16) ?_ ?_
          · intro fa fx fW fy hF hN hJ hE K fK
            have hJ : (TwoG w Q R) (fy 14) (fy 15) (fy 16) (fy 17) fW := hJ
            have q12 : (FWdS S_ (by intro W W' h; rwa [hS_] at h) Q 100 : FactS S_).p (fx 12) fW := by have q := (hE ⟨12, .data⟩ (by simp) rfl).2; rw [hT] at q; exact q
            have q14 : (FactS.any : FactS S_).p (fx 14) fW := by have q := (hE ⟨14, .data⟩ (by simp) rfl).2; rw [hT] at q; exact q
            have y14 : fy 14 = some (fx 14) := (hE ⟨14, .data⟩ (by simp) rfl).1
            have ev45 : fa.tmps[45]?.getD undef = fx 12 := hF.ev 12 45 (by kernel_rfl)
            have ev11 : fa.tmps[11]?.getD undef = fx 14 := hF.ev 14 11 (by kernel_rfl)
            have hJ0 := hJ
            rw [y14] at hJ
            obtain ⟨k1, s0, A0, n0, m0, g1, l1, bw1, _⟩ := hJ.l _ rfl
            obtain ⟨s1, A1, n1, c1, e12, hw1⟩ := Wd.openS q12
            rw [e12] at ev45
            rw [g1] at ev11 hJ
            have i0 := bw1.c0
            have i1 := bw1.c1
            have f0 := bw1.f0 0
            have f1 := bw1.f0 1
            refine wpOp_done rfl (wanted_none rfl) (W' := (fW.setCell ⟨k1, 0, none⟩ (.bool s1)).setCell ⟨k1, 1, none⟩ (.slice A1 n1 c1)) ?_ (fK undef _ (by rw [hS_]; exact .inr ⟨k1, _, _, _, _, s1, A1, n1, c1, bw1, rfl⟩) (by rw [hT]; exact rfl) ?_)
            · clear fK hE hF hJ hJ0 hN hw1 bw1
              go_simp
            · have h9 := hJ.stl rfl hw1 undef
              rw [← g1, ← y14] at h9
              exact h9
          refine stepsAll_cons (k := 17) ?_ ?_
          · intro fa fx fW fy hF hN hJ hE K fK
            have hJ : (TwoG w Q R) (fy 14) (fy 15) (fy 16) (fy 17) fW := hJ
            have q13 : (FWdS S_ (by intro W W' h; rwa [hS_] at h) R 200 : FactS S_).p (fx 13) fW := by have q := (hE ⟨13, .data⟩ (by simp) rfl).2; rw [hT] at q; exact q
            have q15 : (FactS.any : FactS S_).p (fx 15) fW := by have q := (hE ⟨15, .data⟩ (by simp) rfl).2; rw [hT] at q; exact q
            have y15 : fy 15 = some (fx 15) := (hE ⟨15, .data⟩ (by simp) rfl).1
            have ev46 : fa.tmps[46]?.getD undef = fx 13 := hF.ev 13 46 (by kernel_rfl)
            have ev12 : fa.tmps[12]?.getD undef = fx 15 := hF.ev 15 12 (by kernel_rfl)
            have hJ0 := hJ
            rw [y15] at hJ
            obtain ⟨k1, s0, A0, n0, m0, g1, l1, bw1, _⟩ := hJ.r _ rfl
            obtain ⟨s1, A1, n1, c1, e12, hw1⟩ := Wd.openS q13
            rw [e12] at ev46
            rw [g1] at ev12 hJ
            have i0 := bw1.c0
            have i1 := bw1.c1
            have f0 := bw1.f0 0
            have f1 := bw1.f0 1
            refine wpOp_done rfl (wanted_none rfl) (W' := (fW.setCell ⟨k1, 0, none⟩ (.bool s1)).setCell ⟨k1, 1, none⟩ (.slice A1 n1 c1)) ?_ (fK undef _ (by rw [hS_]; exact .inr ⟨k1, _, _, _, _, s1, A1, n1, c1, bw1, rfl⟩) (by rw [hT]; exact rfl) ?_)
            · clear fK hE hF hJ hJ0 hN hw1 bw1
              go_simp
            · have h9 := hJ.str rfl hw1 undef
              rw [← g1, ← y15] at h9
              exact h9
          exact stepsAll_nil
        intro fa fx fW fy hF hJ0 hx
        have y14 : fy 14 = some (fx 14) := (hx 14 (by decide)).1
        have y15 : fy 15 = some (fx 15) := (hx 15 (by decide)).1
        have y16 : fy 16 = some (fx 16) := (hx 16 (by decide)).1
        have y17 : fy 17 = some (fx 17) := (hx 17 (by decide)).1
        have hJ : (TwoG w Q R) (fy 14) (fy 15) (fy 16) (fy 17) fW := hJ0
        clear hJ0
        rw [y14, y15, y16, y17] at hJ
        rw [hF.eq]
        clear hF hx hT T hP_ hR_ y14 y15 y16 y17
        simp only [putAll, Act.put, List.setIfInBounds_toArray, List.set_cons_zero, List.set_cons_succ, ]
        obtain ⟨k1, s1, A1, n1, c1, g1, l1, x1, hwd1⟩ := hJ.l _ rfl
        obtain ⟨k2, s2, A2, n2, c2, g2, l2, x2, hwd2⟩ := hJ.r _ rfl
        have hwd1 := hwd1 rfl
        have hwd2 := hwd2 rfl
        have hB5 := hJ.be
        rw [g1, g2]
        have HI1 := Lib.hid (HI.out _ _ _ _ hwd1 HFQ.out)
        have HI2 := Lib.hid (fun W (h : Wd W (.agg #[.bool s2, .slice A2 n2 c2]) (R : Int) 200) => HI.out _ _ _ W h HFR.out)
        have z0 := x1.c0
        have z1 := x1.c1
        clear g1 g2 hJ
        go_wp2_with (go_at_call 35; (with_reducible refine HI1.out.mono ?_); rintro e w5 ⟨⟨b5, rfl⟩, hb5⟩; have x3 := x2.below hb5; have y0 := x3.c0; have y1 := x3.c1)
        go_wp2_with (go_at_call 35; (with_reducible refine (HI2.out _ (hwd2.below hb5)).mono ?_); rintro e w6 ⟨⟨b6, rfl⟩, hb6⟩)
        go_ret2
        exact ⟨rfl, below_tr (below_tr hB5 hb5) hb6⟩
end Go.Proofs.Ytnacfpkagomfaaa
