/- The reference's device: New, Result, Start where it does nothing. -/
import Derived.Test.YtdfncmhbbhmgfaaDevStart
import Derived.Test.YtdfncmhbbhmgfaaOncePlain
namespace Go.Proofs.Ytdfncmhbbhmgfaa
open Go.RowKit
/-- The reference's device: its four cells, and its row. -/
structure RDev (w : World) (b base : Nat) (room : Int) (l : List Rq) (last done : Int) (v : Value) : Prop where
  room_ : Box w b 0 (.int .i64 room)
  row : Box w b 1 v
  last_ : Box w b 2 (.int .i64 last)
  done_ : Box w b 3 (.int .i64 done)
  own : w.ownsRow base 63 5 v l.length (rqs l)
  apart : v.ownBlock ≠ some b
theorem info_rq2 : (Try.prog.info? 63).map (fun i => (i.zero, i.size, i.bytes)) = some (some (.agg #[.int .i64 0, .int .i64 0, .int .i64 0, .int .i64 0, .int .i64 0]), 5, 40) := by kernel_rfl
set_option maxHeartbeats 1000000 in
theorem rresult (r : Rq) (w : World) : Calls Try.prog 31 #[rqV r] w fun e w' => e = .returned (.int .i64 (resV r)) ∧ Below w.heap.size w w' := by
  obtain ⟨a, b, c, d, e⟩ := r
  unfold rqV resV
  by_cases h1 : d = 1
  · subst h1
    go_enter Try.func31, Try.ntmps31
    go_wp2
    go_ret
    exact ⟨ret_int (by simp), below_al (Below.refl _ _) _⟩
  · have h2 : (d == 1) = false := by simp [h1]
    have H1 := Lib.hid h1
    clear h1
    go_enter Try.func31, Try.ntmps31
    go_wp2
    go_ret
    exact ⟨rfl, below_al (Below.refl _ _) _⟩
set_option maxHeartbeats 1000000 in
theorem rnew_no (n : Int) (w : World) (h : n < 1 ∨ 4096 < n) : Calls Try.prog 13 #[.int .i64 n] w fun e w' => e = .returned (.pointer none) ∧ w = w' := by
  by_cases h1 : n < 1
  · go_enter Try.func13, Try.ntmps13
    go_wp2
    go_ret
    exact ⟨rfl, rfl⟩
  · have h2 : 4096 < n := by omega
    go_enter Try.func13, Try.ntmps13
    go_wp2
    go_ret
    exact ⟨rfl, rfl⟩
set_option maxHeartbeats 1000000 in
theorem rnew_yes (n : Int) (w : World) (h : 1 ≤ n) (h2 : n ≤ 4096) : Calls Try.prog 13 #[.int .i64 n] w fun e w' => e = .returned (.pointer (some ⟨w.heap.size, 0, none⟩)) ∧ Below w.heap.size w w' ∧ w.heap.size < w'.heap.size ∧ RDev w' w.heap.size (w.heap.size + 1) n [] 0 0 (.slice none 0 0) := by
  go_enter Try.func13, Try.ntmps13
  go_wp2
  go_ret
  refine ⟨rfl, below_al (Below.refl _ _) _, by simp, ⟨⟨?_, ?_⟩, ⟨?_, ?_⟩, ⟨?_, ?_⟩, ⟨?_, ?_⟩, World.ownsRow_nil _ _ _ _, by intro h; cases h⟩⟩
  all_goals go_simp
set_option maxRecDepth 100000 in
set_option maxHeartbeats 4000000 in
theorem rstart_bad (p : Value) (r : Rq) (w : World) (hg : goodR r = false) :
    Calls Try.prog 26 #[p, rqV r] w fun e w' => e = .returned (.tuple #[.int .i64 0, .int .i64 2]) ∧ Below w.heap.size w w' := by
  obtain ⟨r1, r2, r3, r4, r5⟩ := r
  have hb : Below w.heap.size w (w.alloc (.cells #[.int .i64 r1, .int .i64 r2, .int .i64 r3, .int .i64 r4, .int .i64 r5] 63)) := below_al (Below.refl _ _) _
  unfold goodR at hg
  simp only at hg
  unfold rqV
  simp only
  by_cases h1 : r2 < 0
  · clear hg
    go_enter Try.func26, Try.ntmps26
    go_wp2
    go_ret2
    exact ⟨ret_ii rfl rfl, hb⟩
  by_cases h2 : r3 < 0
  · clear hg
    go_enter Try.func26, Try.ntmps26
    go_wp2
    go_ret2
    exact ⟨ret_ii rfl rfl, hb⟩
  by_cases h3 : r4 < 1
  · clear hg
    go_enter Try.func26, Try.ntmps26
    go_wp2
    go_ret2
    exact ⟨ret_ii rfl rfl, hb⟩
  by_cases h4 : 2 < r4
  · clear hg
    go_enter Try.func26, Try.ntmps26
    go_wp2
    go_ret2
    exact ⟨ret_ii rfl rfl, hb⟩
  by_cases h5 : r5 < 0
  · clear hg
    go_enter Try.func26, Try.ntmps26
    go_wp2
    go_ret2
    exact ⟨ret_ii rfl rfl, hb⟩
  by_cases h6 : 1000 < r5
  · clear hg
    go_enter Try.func26, Try.ntmps26
    go_wp2
    go_ret2
    exact ⟨ret_ii rfl rfl, hb⟩
  exfalso
  have e4 : r4 = 1 ∨ r4 = 2 := by omega
  rcases e4 with rfl | rfl
  · simp at hg; omega
  · simp at hg; omega
theorem good_nums {r : Rq} (hg : goodR r = true) : 0 ≤ r.space ∧ 0 ≤ r.thread ∧ 1 ≤ r.kind ∧ r.kind ≤ 2 ∧ 0 ≤ r.size ∧ r.size ≤ 1000 := by
  unfold goodR at hg
  simp only [Bool.and_eq_true, Bool.or_eq_true, decide_eq_true_eq] at hg
  omega
set_option maxRecDepth 100000 in
set_option maxHeartbeats 4000000 in
theorem rstart_full (b base : Nat) (room : Int) (l : List Rq) (last done : Int) (v : Value) (r : Rq) (w : World) (h : RDev w b base room l last done v) (hg : goodR r = true) (hf : (l.length : Int) = room) :
    Calls Try.prog 26 #[.pointer (some ⟨b, 0, none⟩), rqV r] w fun e w' => e = .returned (.tuple #[.int .i64 0, .int .i64 3]) ∧ Below w.heap.size w w' := by
  obtain ⟨h1, h2, h3, h4, h5, h6⟩ := good_nums hg
  obtain ⟨A, n, c, rfl, hn, hrd⟩ := own_open h.own
  have hnf : room ≤ (n : Int) := by rw [hn.out]; omega
  obtain ⟨r1, r2, r3, r4, r5⟩ := r
  simp only at h1 h2 h3 h4 h5 h6
  have hb : Below w.heap.size w (w.alloc (.cells #[.int .i64 r1, .int .i64 r2, .int .i64 r3, .int .i64 r4, .int .i64 r5] 63)) := below_al (Below.refl _ _) _
  have hx0 := (h.room_.below hb).cell
  have hx1 := (h.row.below hb).cell
  clear hg hf h hrd hn
  unfold rqV
  simp only
  go_enter Try.func26, Try.ntmps26
  go_wp2
  go_quiet (fail)
  go_wp2
  go_ret2
  exact ⟨ret_ii rfl rfl, below_dr hb _⟩
end Go.Proofs.Ytdfncmhbbhmgfaa
