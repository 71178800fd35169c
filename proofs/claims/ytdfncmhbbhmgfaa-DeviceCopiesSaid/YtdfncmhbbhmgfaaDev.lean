/- Package device: requests, New, made, good, result, Start. -/
import Derived.Test.YtdfncmhbbhmgfaaRows
import Derived.Test.YtdfncmhbbhmgfaaBase
import Derived.Test.YtdfncmhbbhmgfaaChg
namespace Go.Proofs.Ytdfncmhbbhmgfaa
open Go.RowKit
def I64 (n : Int) : Prop := -9223372036854775808 ≤ n ∧ n < 9223372036854775808
structure Rq where
  id : Int
  space : Int
  thread : Int
  kind : Int
  size : Int
deriving DecidableEq, Inhabited
def rqC (r : Rq) : List Value := [.int .i64 r.id, .int .i64 r.space, .int .i64 r.thread, .int .i64 r.kind, .int .i64 r.size]
def rqV (r : Rq) : Value := .agg #[.int .i64 r.id, .int .i64 r.space, .int .i64 r.thread, .int .i64 r.kind, .int .i64 r.size]
def rqs (l : List Rq) : List Value := l.flatMap rqC
theorem rqs_append (l l' : List Rq) : rqs (l ++ l') = rqs l ++ rqs l' := by simp [rqs]
theorem rqs_one (m : Rq) : rqs [m] = rqC m := by simp [rqs]
theorem rqs_length : ∀ l : List Rq, (rqs l).length = l.length * 5
  | [] => rfl
  | m :: l => by
    have := rqs_length l
    simp only [rqs, List.flatMap_cons, List.length_append, List.length_cons] at this ⊢
    rw [this]
    simp [rqC]
    omega
theorem rqs_get : ∀ (l : List Rq) (i : Nat) (m : Rq), l[i]? = some m → ∀ j u, (rqC m)[j]? = some u → (rqs l)[i * 5 + j]? = some u
  | [], i, m, h => by simp at h
  | a :: l, 0, m, h => fun j u hj => by
    simp at h
    subst h
    have hl : j < (rqC a).length := (List.getElem?_eq_some_iff.1 hj).1
    simp only [rqs, List.flatMap_cons, Nat.zero_mul, Nat.zero_add]
    rw [List.getElem?_append_left hl]
    exact hj
  | a :: l, i + 1, m, h => fun j u hj => by
    have h2 := rqs_get l i m (by simpa using h) j u hj
    simp only [rqs, List.flatMap_cons] at h2 ⊢
    have h3 : (rqC a).length = 5 := rfl
    rw [List.getElem?_append_right (by omega), h3, show (i + 1) * 5 + j - 5 = i * 5 + j from by omega]
    exact h2
def goodR (r : Rq) : Bool := decide (0 ≤ r.space) && decide (0 ≤ r.thread) && (decide (r.kind = 1) || decide (r.kind = 2)) && decide (0 ≤ r.size) && decide (r.size ≤ 1000)
/-- A device that was made: its four cells, and its row. -/
structure Dev (w : World) (b base : Nat) (room : Int) (l : List Rq) (last done : Int) (v : Value) : Prop where
  room_ : Box w b 0 (.int .i64 room)
  row : Box w b 1 v
  last_ : Box w b 2 (.int .i64 last)
  done_ : Box w b 3 (.int .i64 done)
  own : w.ownsRow base 28 5 v l.length (rqs l)
  apart : v.ownBlock ≠ some b
theorem info_rq : (Try.prog.info? 28).map (fun i => (i.zero, i.size, i.bytes)) = some (some (.agg #[.int .i64 0, .int .i64 0, .int .i64 0, .int .i64 0, .int .i64 0]), 5, 40) := by kernel_rfl
set_option maxHeartbeats 1000000 in
theorem dmade_nil (w : World) : Calls Try.prog 21 #[.pointer none] w fun e w' => e = .returned (.bool false) ∧ w = w' := by
  go_enter Try.func21, Try.ntmps21
  go_wp2
  go_ret
  exact ⟨rfl, rfl⟩
set_option maxHeartbeats 1000000 in
theorem dmade (b : Nat) (room : Int) (w : World) (h : w.cell? ⟨b, 0, none⟩ = some (.int .i64 room)) : Calls Try.prog 21 #[.pointer (some ⟨b, 0, none⟩)] w fun e w' => e = .returned (.bool (decide (0 < room))) ∧ w = w' := by
  by_cases h1 : 0 < room
  all_goals
    go_enter Try.func21, Try.ntmps21
    go_wp2
    go_ret
    exact ⟨ret_bool (by simp [h1]), rfl⟩
def resV (r : Rq) : Int := if r.kind = 1 then (wrap64 (wrap64 (r.id.tmod 1000 * 31) + wrap64 (r.size * 7))).tmod 1000 else r.size
set_option maxHeartbeats 1000000 in
theorem dresult (r : Rq) (w : World) : Calls Try.prog 25 #[rqV r] w fun e w' => e = .returned (.int .i64 (resV r)) ∧ Below w.heap.size w w' := by
  obtain ⟨a, b, c, d, e⟩ := r
  unfold rqV resV
  by_cases h1 : d = 1
  · subst h1
    go_enter Try.func25, Try.ntmps25
    go_wp2
    go_ret
    exact ⟨ret_int (by simp), below_al (Below.refl _ _) _⟩
  · have h2 : (d == 1) = false := by simp [h1]
    have H1 := Lib.hid h1
    clear h1
    go_enter Try.func25, Try.ntmps25
    go_wp2
    go_ret
    exact ⟨rfl, below_al (Below.refl _ _) _⟩
set_option maxHeartbeats 1000000 in
theorem dgood (r : Rq) (w : World) : Calls Try.prog 22 #[rqV r] w fun e w' => e = .returned (.bool (goodR r)) ∧ Below w.heap.size w w' := by
  obtain ⟨a, b, c, d, e⟩ := r
  have hq : ∃ q, goodR ⟨a, b, c, d, e⟩ = q := ⟨_, rfl⟩
  obtain ⟨q, hq⟩ := hq
  rw [hq]
  unfold goodR at hq
  simp only at hq
  unfold rqV
  simp only
  have HQ := Lib.hid hq
  clear hq
  by_cases h1 : 0 ≤ b <;> by_cases h2 : 0 ≤ c <;> by_cases h3 : d = 1 <;> by_cases h4 : d = 2 <;> by_cases h5 : 0 ≤ e <;> by_cases h6 : e ≤ 1000
  all_goals
    first
    | (exfalso; omega)
    | skip
  all_goals
    have b3 : (d == 1) = decide (d = 1) := by rw [Bool.eq_iff_iff]; simp
    have b4 : (d == 2) = decide (d = 2) := by rw [Bool.eq_iff_iff]; simp
    simp only [h3, h4, decide_true, decide_false] at b3 b4
    go_enter Try.func22, Try.ntmps22
    go_wp2
    go_ret
    refine ⟨ret_bool ?_, below_al (Below.refl _ _) _⟩
    rw [← HQ.out]
    simp [h1, h2, h3, h4, h5, h6]
set_option maxHeartbeats 1000000 in
theorem dnew_no (n : Int) (w : World) (h : n < 1 ∨ 4096 < n) : Calls Try.prog 8 #[.int .i64 n] w fun e w' => e = .returned (.pointer none) ∧ w = w' := by
  by_cases h1 : n < 1
  · go_enter Try.func8, Try.ntmps8
    go_wp2
    go_ret
    exact ⟨rfl, rfl⟩
  · have h2 : 4096 < n := by omega
    go_enter Try.func8, Try.ntmps8
    go_wp2
    go_ret
    exact ⟨rfl, rfl⟩
set_option maxHeartbeats 1000000 in
theorem dnew_yes (n : Int) (w : World) (h : 1 ≤ n) (h2 : n ≤ 4096) : Calls Try.prog 8 #[.int .i64 n] w fun e w' => e = .returned (.pointer (some ⟨w.heap.size, 0, none⟩)) ∧ Below w.heap.size w w' ∧ w.heap.size < w'.heap.size ∧ Dev w' w.heap.size (w.heap.size + 1) n [] 0 0 (.slice none 0 0) := by
  go_enter Try.func8, Try.ntmps8
  go_wp2
  go_ret
  refine ⟨rfl, below_al (Below.refl _ _) _, by simp, ⟨⟨?_, ?_⟩, ⟨?_, ?_⟩, ⟨?_, ?_⟩, ⟨?_, ?_⟩, World.ownsRow_nil _ _ _ _, by intro h; cases h⟩⟩
  all_goals go_simp
end Go.Proofs.Ytdfncmhbbhmgfaa
