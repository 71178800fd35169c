/- The law ReadyShares, plain: two threads that can run all the time, with one running at a time. -/
import Derived.Test.YtabdipfpfbdghaaReadyPlain
import Derived.Test.YtabdipfpfbdghaaStrideWithin
namespace Go.Proofs.Ytabdipfpfbdghaa
open Go.RowKit
theorem near_two {s a u b n m : Int} (ha : 1 ≤ a ∧ a ≤ 65536) (hb : 1 ≤ b ∧ b ≤ 65536) (hs : s = 1099511627776 / a) (hu : u = 1099511627776 / b) (hn : 0 ≤ n ∧ n ≤ 300) (hm : 0 ≤ m) (h : n * s ≤ m * u + s) : n * b - m * a ≤ 2 * b := by
  have e1 : s * a ≤ 1099511627776 ∧ 1099511627776 - 65536 ≤ s * a := by
    have h1 := Int.mul_ediv_add_emod 1099511627776 a
    have h2 := Int.emod_lt_of_pos (1099511627776 : Int) (show 0 < a by omega)
    have h3 := Int.emod_nonneg (1099511627776 : Int) (show a ≠ 0 by omega)
    rw [← hs, Int.mul_comm] at h1
    omega
  have e2 : u * b ≤ 1099511627776 := by
    have h1 := Int.mul_ediv_add_emod 1099511627776 b
    have h3 := Int.emod_nonneg (1099511627776 : Int) (show b ≠ 0 by omega)
    rw [← hu, Int.mul_comm] at h1
    omega
  have hab : 0 ≤ a * b := Int.mul_nonneg (by omega) (by omega)
  have h1 := Int.mul_le_mul_of_nonneg_right h hab
  have f1 : n * s * (a * b) = (n * b) * (s * a) := by
    rw [Int.mul_assoc, Int.mul_assoc]; congr 1
    rw [← Int.mul_assoc, Int.mul_comm (s * a) b]
  have f2 : (m * u + s) * (a * b) = (m * a) * (u * b) + b * (s * a) := by
    rw [Int.add_mul]
    congr 1
    · rw [Int.mul_assoc, Int.mul_assoc]; congr 1
      rw [← Int.mul_assoc, Int.mul_comm u a, Int.mul_assoc]
    · rw [← Int.mul_assoc, Int.mul_comm]
  rw [f1, f2] at h1
  have g1 : (n * b) * (1099511627776 - 65536) ≤ (n * b) * (s * a) := Int.mul_le_mul_of_nonneg_left e1.2 (Int.mul_nonneg hn.1 (by omega))
  have g2 : (m * a) * (u * b) ≤ (m * a) * 1099511627776 := Int.mul_le_mul_of_nonneg_left e2 (Int.mul_nonneg hm (by omega))
  have g3 : b * (s * a) ≤ b * 1099511627776 := Int.mul_le_mul_of_nonneg_left e1.1 (by omega)
  have g4 : n * b ≤ 300 * b := Int.mul_le_mul_of_nonneg_right hn.2 (by omega)
  generalize n * b = D at *
  generalize m * a = E at *
  generalize D * (s * a) = X at *
  generalize E * (u * b) = Y at *
  generalize b * (s * a) = Z at *
  omega
/-- One of the two. -/
structure One2 (q : QV) (x : Nat) (t : Int) : Prop where
  tk : (q.rows.getD x row0).tk = t
  ps : (q.rows.getD x row0).ps = (q.rows.getD x row0).pk * strideV t
  st : (q.rows.getD x row0).st = 1 ∨ (q.rows.getD x row0).st = 2
/-- Nobody runs. -/
def Idle (q : QV) : Prop := ∀ x, x < 20 → (q.rows.getD x row0).st ≠ 2
/-- One alone runs. -/
structure Runs (q : QV) (x : Nat) : Prop where
  lt : x < 20
  st : (q.rows.getD x row0).st = 2
  ps : (q.rows.getD x row0).ps = q.now + strideV (q.rows.getD x row0).tk
  no : ∀ y, y < 20 → y ≠ x → (q.rows.getD y row0).st ≠ 2
structure RS (t u : Int) (q : QV) (k : Nat) : Prop where
  qi : QI 20 q k
  a : One2 q 0 t
  b : One2 q 1 u
def OnR (q : QV) (on : Int) : Prop := (on = -1 ∧ Idle q) ∨ ∃ x : Nat, on = (x : Int) ∧ Runs q x
theorem One2.keep {q q' : QV} {x y : Nat} {t : Int} (h : One2 q y t) (r : RowQ) (hr : q'.rows = q.rows.set x r) (hne : y ≠ x) : One2 q' y t := by
  obtain ⟨h1, h2, h3⟩ := h
  have e : q'.rows.getD y row0 = q.rows.getD y row0 := by rw [hr]; exact getD_set_other _ _ _ _ hne
  exact ⟨by rw [e]; exact h1, by rw [e]; exact h2, by rw [e]; exact h3⟩
theorem Idle.set {q q' : QV} {x : Nat} (r : RowQ) (hr : q'.rows = q.rows.set x r) (hl : q.rows.length = 20) (_hx : x < 20) (h : ∀ y, y < 20 → y ≠ x → (q.rows.getD y row0).st ≠ 2) (h2 : r.st ≠ 2) : Idle q' := by
  intro y hy
  by_cases e : y = x
  · rw [hr, e, getD_set_same' _ _ _ (by omega)]; exact h2
  · rw [hr, getD_set_other _ _ _ _ e]; exact h y hy e
variable {t u : Int} {q : QV} {k : Nat}
theorem RS.same (R : RS t u q k) : RS t u q (k + 1) := ⟨R.qi.more (by omega), R.a, R.b⟩
theorem RS.join {x : Nat} (R : RS t u q k) (hi : Idle q) (hx : x < 20) (h2 : 2 ≤ x) (v : Int) (hv : rightT v = true) (hs : (q.rows.getD x row0).st = 0) : RS t u (joinR q x v) (k + 1) ∧ Idle (joinR q x v) :=
  ⟨⟨joinI R.qi hx v hv hs, R.a.keep _ rfl (by omega), R.b.keep _ rfl (by omega)⟩, Idle.set _ rfl R.qi.len hx (fun y hy _ => hi y hy) (by simp)⟩
theorem RS.wake {x : Nat} (R : RS t u q k) (hk : k ≤ 1000) (hi : Idle q) (hx : x < 20) (h2 : 2 ≤ x) (hs : (q.rows.getD x row0).st = 3) : RS t u (enterR q x) (k + 1) ∧ Idle (enterR q x) :=
  ⟨⟨enterI R.qi hk hx (.inr hs), R.a.keep _ rfl (by omega), R.b.keep _ rfl (by omega)⟩, Idle.set _ rfl R.qi.len hx (fun y hy _ => hi y hy) (by simp)⟩
theorem RS.drop {x : Nat} (R : RS t u q k) (hi : Idle q) (hx : x < 20) (h2 : 2 ≤ x) : RS t u (dropR q x) (k + 1) ∧ Idle (dropR q x) :=
  ⟨⟨dropI R.qi hx, R.a.keep _ rfl (by omega), R.b.keep _ rfl (by omega)⟩, Idle.set _ rfl R.qi.len hx (fun y hy _ => hi y hy) (by simp [row0])⟩
theorem RS.block {x : Nat} (R : RS t u q k) (hr : Runs q x) (h2 : 2 ≤ x) : RS t u (markR q x 3) (k + 1) ∧ Idle (markR q x 3) :=
  ⟨⟨markI R.qi hr.lt hr.st, R.a.keep _ rfl (by omega), R.b.keep _ rfl (by omega)⟩, Idle.set _ rfl R.qi.len hr.lt hr.no (by simp)⟩
theorem One2.back {x y : Nat} {v : Int} (h : One2 q y v) (I : QI 20 q k) (hk : k ≤ 1000) (hr : Runs q x) : One2 (enterR q x) y v := by
  by_cases e : y = x
  · subst e
    have hl : y < q.rows.length := by rw [I.len]; exact hr.lt
    have ht := I.tk y hr.lt (by have := hr.st; omega)
    have hsr := strideQ_in ht
    have hnow := I.now
    have hk3 : (k : Int) * 1099511627776 ≤ 1000 * 1099511627776 := Int.mul_le_mul_of_nonneg_right (by omega) (by omega)
    have he := enter_in (p := (q.rows.getD y row0).ps) (n := q.now) (s := strideV (q.rows.getD y row0).tk) (by unfold I64; omega) (by omega)
    have hps := hr.ps
    have e2 := he.2.2 (by omega) (by omega)
    have e1 : (enterR q y).rows.getD y row0 = ⟨1, (q.rows.getD y row0).tk, (q.rows.getD y row0).ps, (q.rows.getD y row0).pk⟩ := by
      unfold enterR
      simp only
      rw [getD_set_same' _ _ _ hl, e2]
    exact ⟨by rw [e1]; exact h.tk, by rw [e1]; exact h.ps, by rw [e1]; exact .inl rfl⟩
  · exact h.keep _ rfl e
theorem RS.back {x : Nat} (R : RS t u q k) (hk : k ≤ 1000) (hr : Runs q x) : RS t u (enterR q x) (k + 1) ∧ Idle (enterR q x) :=
  ⟨⟨enterI R.qi hk hr.lt (.inl hr.st), R.a.back R.qi hk hr, R.b.back R.qi hk hr⟩, Idle.set _ rfl R.qi.len hr.lt hr.no (by simp)⟩
theorem One2.pick {x y : Nat} {v : Int} (h : One2 q y v) (I : QI 20 q k) (hx : q.h.ids[0]? = some x) : One2 (pickR q x) y v := by
  obtain ⟨hxn, h1, _, hp, _⟩ := pickI I hx
  by_cases e : y = x
  · subst e
    have hl : y < q.rows.length := by rw [I.len]; exact hxn
    have e1 : (pickR q y).rows.getD y row0 = ⟨2, (q.rows.getD y row0).tk, (q.rows.getD y row0).ps + strideV (q.rows.getD y row0).tk, (q.rows.getD y row0).pk + 1⟩ := by
      unfold pickR
      simp only
      rw [getD_set_same' _ _ _ hl, hp]
    have := h.ps
    refine ⟨by rw [e1]; exact h.tk, ?_, by rw [e1]; exact .inr rfl⟩
    rw [e1]
    simp only
    rw [h.tk, Int.add_mul, Int.one_mul, ← this]
  · exact h.keep _ rfl e
theorem RS.pick {x : Nat} (R : RS t u q k) (hi : Idle q) (hx : q.h.ids[0]? = some x) : RS t u (pickR q x) (k + 1) ∧ Runs (pickR q x) x := by
  obtain ⟨hxn, h1, _, hp, I⟩ := pickI R.qi hx
  have hl : x < q.rows.length := by rw [R.qi.len]; exact hxn
  have e1 : (pickR q x).rows.getD x row0 = ⟨2, (q.rows.getD x row0).tk, q.h.ks.getD x 0 + strideV (q.rows.getD x row0).tk, (q.rows.getD x row0).pk + 1⟩ := by
    unfold pickR
    simp only
    rw [getD_set_same' _ _ _ hl]
  refine ⟨⟨I, R.a.pick R.qi hx, R.b.pick R.qi hx⟩, ⟨hxn, by rw [e1], by rw [e1]; rfl, fun y hy hne => ?_⟩⟩
  show ((q.rows.set x _).getD y row0).st ≠ 2
  rw [getD_set_other _ _ _ _ hne]
  exact hi y hy
theorem RS.ahead {x : Nat} {v on : Int} (I : QI 20 q k) (hx : x < 20) (h : One2 q x v) (ho : OnR q on) : q.now ≤ (q.rows.getD x row0).pk * strideV v ∧ (q.rows.getD x row0).pk * strideV v ≤ q.now + strideV v := by
  rw [← h.ps]
  rcases h.st with h1 | h1
  · have := I.key x hx h1
    rw [h.tk] at this
    exact ⟨this.2.1, this.2.2⟩
  · rcases ho with ⟨_, hi⟩ | ⟨y, _, hr⟩
    · exact absurd h1 (hi x hx)
    · have e : x = y := Classical.byContradiction (fun hne => hr.no x hx hne h1)
      subst e
      have ht := strideQ_in (I.tk x hx (by omega))
      have := hr.ps
      rw [h.tk] at this ht
      omega
theorem RS.near {on : Int} (R : RS t u q k) (hk : k ≤ 300) (ho : OnR q on) (ht : rightT t = true) (hu : rightT u = true) : withinV (q.rows.getD 0 row0).pk t (q.rows.getD 1 row0).pk u 1 = true := by
  have a1 := RS.ahead R.qi (by omega) R.a ho
  have a2 := RS.ahead R.qi (by omega) R.b ho
  have p1 := R.qi.pk 0 (by omega)
  have p2 := R.qi.pk 1 (by omega)
  have i1 := right_i64 ht
  have i2 := right_i64 hu
  have s1 : strideV t = 1099511627776 / t := by unfold strideV; rw [if_pos ht]
  have s2 : strideV u = 1099511627776 / u := by unfold strideV; rw [if_pos hu]
  generalize (q.rows.getD 0 row0).pk = n at *
  generalize (q.rows.getD 1 row0).pk = m at *
  have r1 := near_two i1 i2 s1 s2 (n := n) (m := m) ⟨p1.1, by omega⟩ p2.1 (by omega)
  have r2 := near_two i2 i1 s2 s1 (n := m) (m := n) ⟨p2.1, by omega⟩ p1.1 (by omega)
  unfold withinV
  rw [if_neg (by omega), ht, hu, if_pos (show (true && true) = true from rfl)]
  unfold nearV
  simp only [decide_eq_true_eq]
  generalize n * u = D at *
  generalize m * t = E at *
  omega
theorem RS.start (ht : rightT t = true) (hu : rightT u = true) : RS t u (joinR (joinR (newR 20) 0 t) 1 u) 2 ∧ Idle (joinR (joinR (newR 20) 0 t) 1 u) := by
  have e : ∀ x, (newR 20).rows.getD x row0 = row0 := by
    intro x
    show (List.replicate 20 row0).getD x row0 = row0
    rw [List.getD_eq_getElem?_getD, List.getElem?_replicate]
    split <;> rfl
  have I1 := joinI (QI.new 20) (show 0 < 20 by omega) t ht (by rw [e]; rfl)
  have e1 : (joinR (newR 20) 0 t).rows.getD 1 row0 = row0 := by
    show ((newR 20).rows.set 0 _).getD 1 row0 = row0
    rw [getD_set_other _ _ _ _ (by omega), e]
  have I2 := joinI I1 (show 1 < 20 by omega) u hu (by rw [e1]; rfl)
  have r0 : (joinR (joinR (newR 20) 0 t) 1 u).rows.getD 0 row0 = ⟨1, t, 0, 0⟩ := rfl
  have r1 : (joinR (joinR (newR 20) 0 t) 1 u).rows.getD 1 row0 = ⟨1, u, 0, 0⟩ := rfl
  refine ⟨⟨I2, ⟨by rw [r0], by rw [r0]; simp, by rw [r0]; exact .inl rfl⟩, ⟨by rw [r1], by rw [r1]; simp, by rw [r1]; exact .inl rfl⟩⟩, ?_⟩
  intro x hx
  show ((((newR 20).rows.set 0 _).set 1 _).getD x row0).st ≠ 2
  by_cases h1 : x = 1
  · subst h1
    rw [getD_set_same' _ _ _ (by simp [newR])]; simp
  · rw [getD_set_other _ _ _ _ h1]
    by_cases h0 : x = 0
    · subst h0
      rw [getD_set_same' _ _ _ (by simp [newR])]; simp
    · rw [getD_set_other _ _ _ _ h0, e]; decide
end Go.Proofs.Ytabdipfpfbdghaa
