/- Claims in rows; slices.IndexFunc and ContainsFunc at []api.Claim. -/
import Derived.Test.YtmacpgjmhaoneaaRows
import Derived.Test.YtmacpgjmhaoneaaBase
import Derived.Test.YtmacpgjmhaoneaaSharePlain
import Derived.Test.YtmacpgjmhaoneaaIdxP
import Derived.Shelf.Abstract
import Derived.Deep.Slices
namespace Go.Proofs.Ytmacpgjmhaoneaa
open Go.RowKit
def clC (c : Cl) : List Value := [.int .i64 c.weight, .int .i64 c.demand]
def clV (c : Cl) : Value := .agg #[.int .i64 c.weight, .int .i64 c.demand]
def cls (l : List Cl) : List Value := l.flatMap clC
theorem cls_append (l l' : List Cl) : cls (l ++ l') = cls l ++ cls l' := by simp [cls]
theorem cls_length : ∀ l : List Cl, (cls l).length = l.length * 2
  | [] => rfl
  | m :: l => by
    have := cls_length l
    simp only [cls, List.flatMap_cons, List.length_append, List.length_cons] at this ⊢
    rw [this]
    simp [clC]
    omega
theorem cls_get : ∀ (l : List Cl) (i : Nat) (m : Cl), l[i]? = some m → ∀ j u, (clC m)[j]? = some u → (cls l)[i * 2 + j]? = some u
  | [], i, m, h => by simp at h
  | a :: l, 0, m, h => fun j u hj => by
    simp at h
    subst h
    have hl : j < (clC a).length := (List.getElem?_eq_some_iff.1 hj).1
    simp only [cls, List.flatMap_cons, Nat.zero_mul, Nat.zero_add]
    rw [List.getElem?_append_left hl]
    exact hj
  | a :: l, i + 1, m, h => fun j u hj => by
    have h2 := cls_get l i m (by simpa using h) j u hj
    simp only [cls, List.flatMap_cons] at h2 ⊢
    have h3 : (clC a).length = 2 := rfl
    rw [List.getElem?_append_right (by omega), h3, show (i + 1) * 2 + j - 2 = i * 2 + j from by omega]
    exact h2
theorem cls_len {w : World} {A : Option Addr} {n c : Nat} {l : List Cl} (h : Rds w 2 A n c (cls l)) : l.length = n := by
  have := h.len; rw [cls_length] at this; omega
theorem cl_read {w : World} {ad : Addr} {n c : Nat} {l : List Cl} (h : Rds w 2 (some ad) n c (cls l)) (k : Nat) (m : Cl) (hk : l[k]? = some m) :
    w.cell? (ad.add (k * 2)) = some (.int .i64 m.weight) ∧ w.cell? ⟨(ad.add (k * 2)).block, (ad.add (k * 2)).off + 1, none⟩ = some (.int .i64 m.demand) := by
  have h1 : ∀ j u, (clC m)[j]? = some u → w.cell? ((ad.add (k * 2)).add j) = some u := by
    intro j u hj
    rw [Go.Deep.add_add]
    exact h.cell ad rfl _ _ (cls_get l k m hk j u hj)
  exact ⟨h1 0 _ rfl, h1 1 _ rfl⟩
set_option maxHeartbeats 1000000 in
theorem indexCl (g : Nat) (lb : Array Value) (eg : ∀ args w, (callFunc g args).run Try.prog w = .ok (.enter g args) w) (p : Cl → Bool) (A : Option Addr) (n c : Nat) (xs : List Cl) (w : World) (hr : Rds w 2 A n c (cls xs))
    (hp : ∀ x ∈ xs, ∀ W, Below w.heap.size w W → Calls Try.prog g (#[clV x] ++ lb) W fun e w' => e = .returned (.bool (p x)) ∧ Below W.heap.size W w') :
    Calls Try.prog 32 #[.slice A n c, .func (.func g) #[] lb] w fun e w' => e = .returned (.int .i64 (idxP p xs)) ∧ Below w.heap.size w w' := by
  have HP := Lib.hid hp
  have HN : Hid (xs.length = n) := cls_len hr
  have hmax : n ≤ 9223372036854775807 := by have := hr.le; have := hr.max; unfold maxLen at this; omega
  clear hp
  go_enter Try.func32, Try.ntmps32
  go_wp2
  go_loopw [8] (fun i wr => ∃ k : Nat, k ≤ n ∧ i = .int .i64 k ∧ Hid (∀ j (hj : j < k) (hj2 : j < xs.length), p xs[j] = false) ∧ Below w.heap.size w wr) (fun i _ => n - (intOf i).toNat)
  case atStart => exact ⟨0, Nat.zero_le _, rfl, fun j hj => absurd hj (Nat.not_lt_zero _), Below.refl _ _⟩
  case round =>
    obtain ⟨k, hk, rfl, HJ, hb⟩ := hrel
    by_cases hlt : k < n
    · have hkx : k < xs.length := by rw [HN.out]; exact hlt
      obtain ⟨ad, rfl⟩ := hr.some_ (by omega)
      obtain ⟨hc0, hc1⟩ := cl_read (hr.below hb) k xs[k] (List.getElem?_eq_getElem hkx)
      have hcall := HP.out xs[k] (List.getElem_mem hkx) wr hb
      unfold clV at hcall
      generalize hy : xs[k] = y at hc0 hc1 hcall
      have HY := Lib.hid hy
      clear hy
      obtain ⟨y1, y2⟩ := y
      simp only at hc0 hc1 hcall
      cases hq : p ⟨y1, y2⟩ with
      | true =>
        rw [hq] at hcall
        have HQ := Lib.hid hq
        have HC := Lib.hid hcall
        clear hq hcall
        go_wp2_with ((with_reducible refine HC.out.mono ?_); rintro e w' ⟨rfl, hb2⟩)
        go_ret
        refine ⟨?_, below_tr hb hb2⟩
        rw [idxP_some p xs k hkx (by rw [HY.out]; exact HQ.out) (fun j hj => HJ.out j hj (by omega))]
        rfl
      | false =>
        rw [hq] at hcall
        have HQ := Lib.hid hq
        have HC := Lib.hid hcall
        clear hq hcall
        go_wp2_with ((with_reducible refine HC.out.mono ?_); rintro e w' ⟨rfl, hb2⟩)
        go_roundw
        case rel =>
          refine ⟨k + 1, by omega, by go_num, (show Hid _ from fun j hj hj2 => ?_), below_tr hb hb2⟩
          by_cases e : j = k
          · subst e
            rw [HY.out]; exact HQ.out
          · exact HJ.out j (by omega) hj2
        case measure => simp [intOf]; omega
    · go_wp2
      go_ret
      refine ⟨?_, hb⟩
      rw [idxP_none p xs (fun x hx => by
        obtain ⟨j, hj, rfl⟩ := List.getElem_of_mem hx
        exact HJ.out j (by have := HN.out; omega) hj)]
      rfl
set_option maxHeartbeats 400000 in
theorem containsCl (g : Nat) (lb : Array Value) (eg : ∀ args w, (callFunc g args).run Try.prog w = .ok (.enter g args) w) (p : Cl → Bool) (A : Option Addr) (n c : Nat) (xs : List Cl) (w : World) (hr : Rds w 2 A n c (cls xs))
    (hp : ∀ x ∈ xs, ∀ W, Below w.heap.size w W → Calls Try.prog g (#[clV x] ++ lb) W fun e w' => e = .returned (.bool (p x)) ∧ Below W.heap.size W w') :
    Calls Try.prog 22 #[.slice A n c, .func (.func g) #[] lb] w fun e w' => e = .returned (.bool (xs.any p)) ∧ Below w.heap.size w w' := by
  have HI := Lib.hid (indexCl g lb eg p A n c xs w hr hp)
  have HA := Lib.hid (idxP_any p xs)
  generalize idxP p xs = q at HI HA
  generalize xs.any p = b at HA
  clear hp hr eg
  go_enter Try.func22, Try.ntmps22
  go_wp2_with ((with_reducible refine HI.out.mono ?_); rintro e w' ⟨rfl, hb⟩)
  go_ret
  exact ⟨ret_bool HA.out, hb⟩
end Go.Proofs.Ytmacpgjmhaoneaa
