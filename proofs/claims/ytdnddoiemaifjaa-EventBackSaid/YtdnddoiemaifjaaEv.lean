/- Events in rows; slices.IndexFunc at them; Batch's test. -/
import Derived.Test.YtdnddoiemaifjaaRows
import Derived.Test.YtdnddoiemaifjaaBase
import Derived.Test.YtdnddoiemaifjaaIdxP
import Derived.Shelf.Abstract
import Derived.Deep.Slices
namespace Go.Proofs.Ytdnddoiemaifjaa
open Go.RowKit
structure Ev where
  kind : Int
  act : Int
  thread : Int
  value : Int
  program : Int
  pc : Int
  r0 : Int
  r1 : Int
  r2 : Int
  r3 : Int
  r4 : Int
  r5 : Int
  r6 : Int
  r7 : Int
  depth : Int
deriving DecidableEq, Inhabited
def evC (e : Ev) : List Value := [.int .i64 e.kind, .int .i64 e.act, .int .i64 e.thread, .int .i64 e.value, .int .i64 e.program, .int .i64 e.pc, .int .i64 e.r0, .int .i64 e.r1, .int .i64 e.r2, .int .i64 e.r3, .int .i64 e.r4, .int .i64 e.r5, .int .i64 e.r6, .int .i64 e.r7, .int .i64 e.depth]
def evV (e : Ev) : Value := .agg #[.int .i64 e.kind, .int .i64 e.act, .int .i64 e.thread, .int .i64 e.value, .int .i64 e.program, .int .i64 e.pc, .int .i64 e.r0, .int .i64 e.r1, .int .i64 e.r2, .int .i64 e.r3, .int .i64 e.r4, .int .i64 e.r5, .int .i64 e.r6, .int .i64 e.r7, .int .i64 e.depth]
def evs (l : List Ev) : List Value := l.flatMap evC
theorem evs_append (l l' : List Ev) : evs (l ++ l') = evs l ++ evs l' := by simp [evs]
theorem evs_length : ∀ l : List Ev, (evs l).length = l.length * 15
  | [] => rfl
  | m :: l => by
    have := evs_length l
    simp only [evs, List.flatMap_cons, List.length_append, List.length_cons] at this ⊢
    rw [this]
    simp [evC]
    omega
theorem evs_get : ∀ (l : List Ev) (i : Nat) (m : Ev), l[i]? = some m → ∀ j u, (evC m)[j]? = some u → (evs l)[i * 15 + j]? = some u
  | [], i, m, h => by simp at h
  | a :: l, 0, m, h => fun j u hj => by
    simp at h
    subst h
    have hl : j < (evC a).length := (List.getElem?_eq_some_iff.1 hj).1
    simp only [evs, List.flatMap_cons, Nat.zero_mul, Nat.zero_add]
    rw [List.getElem?_append_left hl]
    exact hj
  | a :: l, i + 1, m, h => fun j u hj => by
    have h2 := evs_get l i m (by simpa using h) j u hj
    simp only [evs, List.flatMap_cons] at h2 ⊢
    have h3 : (evC a).length = 15 := rfl
    rw [List.getElem?_append_right (by omega), h3, show (i + 1) * 15 + j - 15 = i * 15 + j from by omega]
    exact h2
theorem evs_len {w : World} {A : Option Addr} {n c : Nat} {l : List Ev} (h : Rds w 15 A n c (evs l)) : l.length = n := by
  have := h.len; rw [evs_length] at this; omega
theorem evs_one : ∀ (l : List Ev), ∀ u ∈ evs l, u.oneCell' = true := by
  intro l u hu
  simp only [evs, List.mem_flatMap] at hu
  obtain ⟨r, _, hu⟩ := hu
  simp only [evC, List.mem_cons, List.not_mem_nil, or_false] at hu
  rcases hu with rfl | rfl | rfl | rfl | rfl | rfl | rfl | rfl | rfl | rfl | rfl | rfl | rfl | rfl | rfl <;> rfl
theorem info_ev : (Try.prog.info? 30).map (fun i => (i.zero, i.size, i.bytes)) = some (some (evV ⟨0, 0, 0, 0, 0, 0, 0, 0, 0, 0, 0, 0, 0, 0, 0⟩), 15, 120) := by kernel_rfl
/-- The cells of an event at an address. -/
structure EvAt (w : World) (a : Addr) (m : Ev) : Prop where
  c0 : w.cell? a = some (.int .i64 m.kind)
  c1 : w.cell? ⟨a.block, a.off + 1, none⟩ = some (.int .i64 m.act)
  c2 : w.cell? ⟨a.block, a.off + 2, none⟩ = some (.int .i64 m.thread)
  c3 : w.cell? ⟨a.block, a.off + 3, none⟩ = some (.int .i64 m.value)
  c4 : w.cell? ⟨a.block, a.off + 4, none⟩ = some (.int .i64 m.program)
  c5 : w.cell? ⟨a.block, a.off + 5, none⟩ = some (.int .i64 m.pc)
  c6 : w.cell? ⟨a.block, a.off + 6, none⟩ = some (.int .i64 m.r0)
  c7 : w.cell? ⟨a.block, a.off + 7, none⟩ = some (.int .i64 m.r1)
  c8 : w.cell? ⟨a.block, a.off + 8, none⟩ = some (.int .i64 m.r2)
  c9 : w.cell? ⟨a.block, a.off + 9, none⟩ = some (.int .i64 m.r3)
  c10 : w.cell? ⟨a.block, a.off + 10, none⟩ = some (.int .i64 m.r4)
  c11 : w.cell? ⟨a.block, a.off + 11, none⟩ = some (.int .i64 m.r5)
  c12 : w.cell? ⟨a.block, a.off + 12, none⟩ = some (.int .i64 m.r6)
  c13 : w.cell? ⟨a.block, a.off + 13, none⟩ = some (.int .i64 m.r7)
  c14 : w.cell? ⟨a.block, a.off + 14, none⟩ = some (.int .i64 m.depth)
theorem ev_read {w : World} {ad : Addr} {n c : Nat} {l : List Ev} (h : Rds w 15 (some ad) n c (evs l)) (k : Nat) (m : Ev) (hk : l[k]? = some m) : EvAt w (ad.add (k * 15)) m := by
  have h1 : ∀ j u, (evC m)[j]? = some u → w.cell? ((ad.add (k * 15)).add j) = some u := by
    intro j u hj
    rw [Go.Deep.add_add]
    exact h.cell ad rfl _ _ (evs_get l k m hk j u hj)
  exact ⟨h1 0 _ rfl, h1 1 _ rfl, h1 2 _ rfl, h1 3 _ rfl, h1 4 _ rfl, h1 5 _ rfl, h1 6 _ rfl, h1 7 _ rfl, h1 8 _ rfl, h1 9 _ rfl, h1 10 _ rfl, h1 11 _ rfl, h1 12 _ rfl, h1 13 _ rfl, h1 14 _ rfl⟩
def pre (e : Ev) : Bool := decide (e.kind = 2)
set_option maxHeartbeats 4000000 in
theorem sbatch1 (e : Ev) (w : World) : Calls Try.prog 21 #[evV e] w fun x w' => x = .returned (.bool (pre e)) ∧ Below w.heap.size w w' := by
  obtain ⟨e0, e1, e2, e3, e4, e5, e6, e7, e8, e9, e10, e11, e12, e13, e14⟩ := e
  unfold evV pre
  simp only
  have hal : Below w.heap.size w (w.alloc (.cells #[.int .i64 e0, .int .i64 e1, .int .i64 e2, .int .i64 e3, .int .i64 e4, .int .i64 e5, .int .i64 e6, .int .i64 e7, .int .i64 e8, .int .i64 e9, .int .i64 e10, .int .i64 e11, .int .i64 e12, .int .i64 e13, .int .i64 e14] 30)) := below_al (Below.refl _ _) _
  by_cases h : e0 = 2
  · subst h
    go_enter Try.func21, Try.ntmps21
    go_wp2
    go_ret
    exact ⟨rfl, hal⟩
  · have hz : (e0 == 2) = false := by simpa using h
    rw [decide_eq_false h]
    go_enter Try.func21, Try.ntmps21
    go_wp2
    go_ret
    exact ⟨rfl, hal⟩
set_option maxRecDepth 100000 in
set_option maxHeartbeats 4000000 in
theorem indexEv (g : Nat) (lb : Array Value) (eg : ∀ args w, (callFunc g args).run Try.prog w = .ok (.enter g args) w) (p : Ev → Bool) (A : Option Addr) (n c : Nat) (xs : List Ev) (w : World) (hr : Rds w 15 A n c (evs xs))
    (hp : ∀ x ∈ xs, ∀ W, Below w.heap.size w W → Calls Try.prog g (#[evV x] ++ lb) W fun e w' => e = .returned (.bool (p x)) ∧ Below W.heap.size W w') :
    Calls Try.prog 20 #[.slice A n c, .func (.func g) #[] lb] w fun e w' => e = .returned (.int .i64 (idxP p xs)) ∧ Below w.heap.size w w' := by
  have HP := Lib.hid hp
  have HN : Hid (xs.length = n) := evs_len hr
  have hmax : n ≤ 9223372036854775807 := by have := hr.le; have := hr.max; unfold maxLen at this; omega
  clear hp
  go_enter Try.func20, Try.ntmps20
  go_wp2
  go_loopw [8] (fun i wr => ∃ k : Nat, k ≤ n ∧ i = .int .i64 k ∧ Hid (∀ j (hj : j < k) (hj2 : j < xs.length), p xs[j] = false) ∧ Below w.heap.size w wr) (fun i _ => n - (intOf i).toNat)
  case atStart => exact ⟨0, Nat.zero_le _, rfl, fun j hj => absurd hj (Nat.not_lt_zero _), Below.refl _ _⟩
  case round =>
    obtain ⟨k, hk, rfl, HJ, hb⟩ := hrel
    by_cases hlt : k < n
    · have hkx : k < xs.length := by rw [HN.out]; exact hlt
      obtain ⟨ad, rfl⟩ := hr.some_ (by omega)
      obtain ⟨h0, h1, h2, h3, h4, h5, h6, h7, h8, h9, h10, h11, h12, h13, h14⟩ := ev_read (hr.below hb) k xs[k] (List.getElem?_eq_getElem hkx)
      have hcall := HP.out xs[k] (List.getElem_mem hkx) wr hb
      unfold evV at hcall
      generalize hy : xs[k] = y at h0 h1 h2 h3 h4 h5 h6 h7 h8 h9 h10 h11 h12 h13 h14 hcall
      have HY := Lib.hid hy
      clear hy
      obtain ⟨e0, e1, e2, e3, e4, e5, e6, e7, e8, e9, e10, e11, e12, e13, e14⟩ := y
      simp only at h0 h1 h2 h3 h4 h5 h6 h7 h8 h9 h10 h11 h12 h13 h14 hcall
      cases hq : p ⟨e0, e1, e2, e3, e4, e5, e6, e7, e8, e9, e10, e11, e12, e13, e14⟩ with
      | true =>
        rw [hq] at hcall
        have HQ := Lib.hid hq
        have HC := Lib.hid hcall
        clear hq hcall
        go_wp2_with ((with_reducible refine HC.out.mono ?_); rintro e w' ⟨rfl, hb2⟩)
        go_ret
        refine ⟨?_, below_tr hb hb2⟩
        rw [idxP_some p xs k hkx (by rw [HY.out]; exact HQ.out) (fun j hj => HJ.out j hj (by omega))]
        rfl
      | false =>
        rw [hq] at hcall
        have HQ := Lib.hid hq
        have HC := Lib.hid hcall
        clear hq hcall
        go_wp2_with ((with_reducible refine HC.out.mono ?_); rintro e w' ⟨rfl, hb2⟩)
        go_roundw
        case rel =>
          refine ⟨k + 1, by omega, by go_num, (show Hid _ from fun j hj hj2 => ?_), below_tr hb hb2⟩
          rcases Nat.lt_succ_iff_lt_or_eq.1 hj with h | rfl
          · exact HJ.out j h hj2
          · rw [HY.out]; exact HQ.out
        case measure => simp only [intOf]; omega
    · obtain rfl : k = n := by omega
      go_wp2
      go_ret
      refine ⟨?_, hb⟩
      rw [idxP_none p xs (fun x hx => by
        obtain ⟨j, hj, rfl⟩ := List.getElem_of_mem hx
        exact HJ.out j (by have := HN.out; omega) hj)]
      rfl
end Go.Proofs.Ytdnddoiemaifjaa
