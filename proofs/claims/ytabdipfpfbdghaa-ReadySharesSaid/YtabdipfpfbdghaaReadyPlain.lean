/- Threads that share: what holds of a queue's plain state behind each act. -/
import Derived.Test.YtabdipfpfbdghaaReadyMore
import Derived.Test.YtabdipfpfbdghaaReadyNew
namespace Go.Proofs.Ytabdipfpfbdghaa
open Go.RowKit
structure QI (n : Nat) (q : QV) (k : Nat) : Prop where
  sd : Sd n q.h
  len : q.rows.length = n
  has : ∀ x, x < n → (hasV q.h x ↔ (q.rows.getD x row0).st = 1)
  tk : ∀ x, x < n → (q.rows.getD x row0).st ≠ 0 → rightT (q.rows.getD x row0).tk = true
  key : ∀ x, x < n → (q.rows.getD x row0).st = 1 → q.h.ks.getD x 0 = (q.rows.getD x row0).ps ∧ q.now ≤ (q.rows.getD x row0).ps ∧ (q.rows.getD x row0).ps ≤ q.now + strideV (q.rows.getD x row0).tk
  now : 0 ≤ q.now ∧ q.now ≤ k * 1099511627776
  pk : ∀ x, x < n → 0 ≤ (q.rows.getD x row0).pk ∧ (q.rows.getD x row0).pk ≤ k
theorem QI.upd {n k k' x : Nat} {q : QV} (I : QI n q k) (hx : x < n) (r : RowQ) (h' : HV) (now' : Int) (hs : Sd n h') (hh : ∀ y, y < n → (hasV h' y ↔ if y = x then r.st = 1 else hasV q.h y)) (hk : ∀ y, y ≠ x → h'.ks.getD y 0 = q.h.ks.getD y 0)
    (hrk : r.st = 1 → h'.ks.getD x 0 = r.ps ∧ now' ≤ r.ps ∧ r.ps ≤ now' + strideV r.tk) (hn : q.now ≤ now') (hn2 : now' ≤ k' * 1099511627776) (ho : ∀ y, y < n → y ≠ x → (q.rows.getD y row0).st = 1 → now' ≤ (q.rows.getD y row0).ps) (ht : r.st ≠ 0 → rightT r.tk = true) (hp : 0 ≤ r.pk ∧ r.pk ≤ k') (hkk : k ≤ k') : QI n ⟨now', q.rows.set x r, h'⟩ k' := by
  have hl : x < q.rows.length := by rw [I.len]; exact hx
  have e1 : (q.rows.set x r).getD x row0 = r := getD_set_same' _ _ _ hl
  have e2 : ∀ y, y ≠ x → (q.rows.set x r).getD y row0 = q.rows.getD y row0 := fun y h => getD_set_other _ _ _ _ h
  have hnow := I.now
  refine ⟨hs, by simp only [List.length_set]; exact I.len, fun y hy => ?_, fun y hy => ?_, fun y hy => ?_, ⟨by show (0 : Int) ≤ now'; omega, hn2⟩, fun y hy => ?_⟩
  · rw [hh y hy]
    by_cases e : y = x
    · rw [if_pos e, e, e1]
    · rw [if_neg e, e2 y e]
      exact I.has y hy
  · by_cases e : y = x
    · rw [e, e1]; exact ht
    · rw [e2 y e]; exact I.tk y hy
  · by_cases e : y = x
    · rw [e, e1]; exact hrk
    · rw [e2 y e]
      intro h1
      obtain ⟨a1, a2, a3⟩ := I.key y hy h1
      refine ⟨(hk y e).trans a1, ho y hy e h1, ?_⟩
      show _ ≤ now' + _
      omega
  · by_cases e : y = x
    · rw [e, e1]; exact hp
    · rw [e2 y e]
      have := I.pk y hy
      omega
theorem QI.more {n k k' : Nat} {q : QV} (I : QI n q k) (h : k ≤ k') : QI n q k' := by
  refine ⟨I.sd, I.len, I.has, I.tk, I.key, ⟨I.now.1, ?_⟩, fun x hx => ⟨(I.pk x hx).1, ?_⟩⟩
  · have := I.now.2
    have h2 : (k : Int) * 1099511627776 ≤ (k' : Int) * 1099511627776 := Int.mul_le_mul_of_nonneg_right (by omega) (by omega)
    omega
  · have := (I.pk x hx).2
    omega
theorem QI.new (n : Nat) : QI n (newR n) 0 := by
  have e : ∀ x, (newR n).rows.getD x row0 = row0 := by
    intro x
    show (List.replicate n row0).getD x row0 = row0
    rw [List.getD_eq_getElem?_getD, List.getElem?_replicate]
    split <;> rfl
  refine ⟨(new_ok n).1, List.length_replicate, fun x hx => ?_, fun x hx h => ?_, fun x hx h => ?_, ⟨Int.le_refl _, by simp [newR]⟩, fun x hx => ?_⟩
  · rw [e]
    exact ⟨fun h => absurd h ((new_ok n).2 x), fun h => by simp [row0] at h⟩
  · rw [e] at h; exact absurd rfl h
  · rw [e] at h; exact absurd h (by decide)
  · rw [e]; exact ⟨Int.le_refl _, Int.le_refl _⟩
theorem satAdd_in {n s : Int} (h : I64 (n + s)) : satAdd n s = n + s := by unfold satAdd; rw [if_pos h]
theorem enter_in {p n s : Int} (h : I64 (n + s)) (hs : 0 ≤ s) : n ≤ enterV p n s ∧ enterV p n s ≤ n + s ∧ (n ≤ p → p ≤ n + s → enterV p n s = p) := by
  unfold enterV clampV
  rw [satAdd_in h]
  refine ⟨?_, ?_, ?_⟩ <;> (repeat' split) <;> omega
theorem joinI {n k x : Nat} {q : QV} (I : QI n q k) (hx : x < n) (t : Int) (ht : rightT t = true) (hs : (q.rows.getD x row0).st = 0) : QI n (joinR q x t) (k + 1) := by
  have hno : ¬ hasV q.h x := fun h => by have := (I.has x hx).1 h; omega
  have T := put_ok I.sd x q.now hx hno
  have hsr := strideQ_in ht
  have hk2 : (k : Int) * 1099511627776 ≤ ((k + 1 : Nat) : Int) * 1099511627776 := Int.mul_le_mul_of_nonneg_right (by omega) (by omega)
  refine I.upd hx _ _ _ T.sd (fun y hy => ?_) (fun y hy => by rw [T.ks, ks_set _ _ _ _ hy]) (fun _ => ?_) (Int.le_refl _) (by have := I.now.2; omega) (fun y hy _ h => (I.key y hy h).2.1) (fun _ => ht) ⟨Int.le_refl _, by show (0 : Int) ≤ _; omega⟩ (by omega)
  · rw [T.has]
    by_cases e : y = x
    · simp [e]
    · simp [e]
  · rw [T.ks]
    refine ⟨?_, Int.le_refl _, by show q.now ≤ q.now + strideV t; omega⟩
    rw [List.getD_eq_getElem?_getD, List.getElem?_set, if_pos rfl, if_pos (by rw [I.sd.klen]; exact hx)]
    rfl
theorem enterI {n k x : Nat} {q : QV} (I : QI n q k) (hk : k ≤ 1000) (hx : x < n) (hs : (q.rows.getD x row0).st = 2 ∨ (q.rows.getD x row0).st = 3) : QI n (enterR q x) (k + 1) := by
  have hno : ¬ hasV q.h x := fun h => by have := (I.has x hx).1 h; omega
  have ht := I.tk x hx (by omega)
  have hsr := strideQ_in ht
  have hnow := I.now
  have T := put_ok I.sd x (enterV (q.rows.getD x row0).ps q.now (strideV (q.rows.getD x row0).tk)) hx hno
  have hk2 : (k : Int) * 1099511627776 ≤ ((k + 1 : Nat) : Int) * 1099511627776 := Int.mul_le_mul_of_nonneg_right (by omega) (by omega)
  have hk3 : (k : Int) * 1099511627776 ≤ 1000 * 1099511627776 := Int.mul_le_mul_of_nonneg_right (by omega) (by omega)
  have he := enter_in (p := (q.rows.getD x row0).ps) (n := q.now) (s := strideV (q.rows.getD x row0).tk) (by unfold I64; omega) (by omega)
  have hp := I.pk x hx
  refine I.upd hx _ _ _ T.sd (fun y hy => ?_) (fun y hy => by rw [T.ks, ks_set _ _ _ _ hy]) (fun _ => ?_) (Int.le_refl _) (by omega) (fun y hy _ h => (I.key y hy h).2.1) (fun _ => ht) ⟨hp.1, by show (q.rows.getD x row0).pk ≤ _; omega⟩ (by omega)
  · rw [T.has]
    by_cases e : y = x
    · simp [e]
    · simp [e]
  · rw [T.ks]
    refine ⟨?_, he.1, he.2.1⟩
    rw [List.getD_eq_getElem?_getD, List.getElem?_set, if_pos rfl, if_pos (by rw [I.sd.klen]; exact hx)]
    rfl
theorem markI {n k x : Nat} {q : QV} (I : QI n q k) (hx : x < n) (hs : (q.rows.getD x row0).st = 2) : QI n (markR q x 3) (k + 1) := by
  have hno : ¬ hasV q.h x := fun h => by have := (I.has x hx).1 h; omega
  have hnow := I.now
  have hk2 : (k : Int) * 1099511627776 ≤ ((k + 1 : Nat) : Int) * 1099511627776 := Int.mul_le_mul_of_nonneg_right (by omega) (by omega)
  have hp := I.pk x hx
  refine I.upd hx _ _ _ I.sd (fun y hy => ?_) (fun _ _ => rfl) (fun h => by simp at h) (Int.le_refl _) (by omega) (fun y hy _ h => (I.key y hy h).2.1) (fun _ => I.tk x hx (by omega)) ⟨hp.1, by show (q.rows.getD x row0).pk ≤ _; omega⟩ (by omega)
  by_cases e : y = x
  · rw [if_pos e, e]; simp [hno]
  · rw [if_neg e]
theorem dropI {n k x : Nat} {q : QV} (I : QI n q k) (hx : x < n) : QI n (dropR q x) (k + 1) := by
  have hnow := I.now
  have hk2 : (k : Int) * 1099511627776 ≤ ((k + 1 : Nat) : Int) * 1099511627776 := Int.mul_le_mul_of_nonneg_right (by omega) (by omega)
  by_cases h1 : (q.rows.getD x row0).st = 1
  · have hh := (I.has x hx).2 h1
    have T := out_ok I.sd _ x (place_ids I.sd x hh)
    unfold dropR
    rw [if_pos h1]
    refine I.upd hx _ _ _ T.sd (fun y hy => ?_) (fun y _ => by rw [T.ks]) (fun h => by simp [row0] at h) (Int.le_refl _) (by omega) (fun y hy _ h => (I.key y hy h).2.1) (fun h => absurd rfl h) ⟨Int.le_refl _, by simp [row0]; omega⟩ (by omega)
    rw [T.has]
    by_cases e : y = x
    · simp [e, row0]
    · simp [e]
  · have hno : ¬ hasV q.h x := fun h => h1 ((I.has x hx).1 h)
    unfold dropR
    rw [if_neg h1]
    refine I.upd hx _ _ _ I.sd (fun y hy => ?_) (fun _ _ => rfl) (fun h => by simp [row0] at h) (Int.le_refl _) (by omega) (fun y hy _ h => (I.key y hy h).2.1) (fun h => absurd rfl h) ⟨Int.le_refl _, by simp [row0]; omega⟩ (by omega)
    by_cases e : y = x
    · rw [if_pos e, e]; simp [hno, row0]
    · rw [if_neg e]
theorem pickI {n k x : Nat} {q : QV} (I : QI n q k) (hx : q.h.ids[0]? = some x) : x < n ∧ (q.rows.getD x row0).st = 1 ∧ q.now ≤ q.h.ks.getD x 0 ∧ q.h.ks.getD x 0 = (q.rows.getD x row0).ps ∧ QI n (pickR q x) (k + 1) := by
  have hxn := (I.sd.bij.r 0 x hx).1
  have hh : hasV q.h x := ⟨0, hx⟩
  have h1 := (I.has x hxn).1 hh
  obtain ⟨a1, a2, a3⟩ := I.key x hxn h1
  have ht := I.tk x hxn (by omega)
  have hsr := strideQ_in ht
  have hnow := I.now
  have hp := I.pk x hxn
  have T := out_ok I.sd 0 x hx
  have hk2 : ((k + 1 : Nat) : Int) * 1099511627776 = (k : Int) * 1099511627776 + 1099511627776 := by rw [Int.natCast_add, Int.add_mul]; rfl
  refine ⟨hxn, h1, by omega, a1, ?_⟩
  refine I.upd hxn _ _ _ T.sd (fun y hy => ?_) (fun y _ => by rw [T.ks]) (fun h => by simp at h) (by omega) (by omega) (fun y hy hne h => ?_) (fun _ => ht) ⟨by show 0 ≤ _ + 1; omega, by show _ + 1 ≤ _; omega⟩ (by omega)
  · rw [T.has]
    by_cases e : y = x
    · simp [e]
    · simp [e]
  · have hl := first_least I.sd x hx y ((I.has y hy).2 h)
    obtain ⟨b1, _⟩ := I.key y hy h
    unfold leK at hl
    rw [← b1]
    omega
end Go.Proofs.Ytabdipfpfbdghaa
