/- slices.Clone of requests. -/
import Derived.Test.YtdfncmhbbhmgfaaDev
import Derived.Lib.SliceRun
namespace Go.Proofs.Ytdfncmhbbhmgfaa
open Go.RowKit
theorem rqs_one_cell (l : List Rq) : ∀ u ∈ rqs l, u.oneCell' = true := by
  intro u hu
  simp only [rqs, List.mem_flatMap] at hu
  obtain ⟨r, _, hu⟩ := hu
  simp [rqC] at hu
  rcases hu with rfl | rfl | rfl | rfl | rfl <;> rfl
set_option maxHeartbeats 1000000 in
theorem cloneRq (A : Option Addr) (n c : Nat) (l : List Rq) (w : World) (hr : Rds w 5 A n c (rqs l)) (hm : n ≤ 100000) :
    Calls Try.prog 24 #[.slice A n c] w fun e w' => (∃ v, e = .returned v ∧ w'.ownsRow w.heap.size 28 5 v n (rqs l)) ∧ Below w.heap.size w w' := by
  have q22 : ∀ (w : World) (a : Option Addr) (n c n' c' : Nat), (binOp .eql 22 (.slice a n c) (.slice none n' c')).run Try.prog w = .ok (.bool a.isNone) w := fun w a n c n' c' => Lib.run_eql_slice_nil w _ _ a n c n' c' Try.underlying22
  cases A with
  | none =>
    obtain ⟨rfl, rfl, h0⟩ := hr.nil_n
    go_enter Try.func24, Try.ntmps24
    go_wp2
    go_ret
    refine ⟨⟨_, rfl, ?_⟩, Below.refl _ _⟩
    rw [h0]
    exact World.ownsRow_nil _ _ _ _
  | some ad =>
    have hal : Below w.heap.size w (w.alloc (.cells #[] 28)) := below_al (Below.refl _ _) _
    have hown : (w.alloc (.cells #[] 28)).ownsRow w.heap.size 28 5 (.slice (some ⟨w.heap.size, 0, none⟩) 0 0) 0 [] := World.ownsRow_lit w #[] 0 (Nat.le_refl _) (Nat.zero_le _) rfl
    go_enter Try.func24, Try.ntmps24
    go_wp2_with (at_builtin; refine apn (w0 := w) w.heap.size rfl _ _ 22 28 _ 5 40 (by rfl) Try.underlying22 info_rq rfl (by decide) (by decide) _ 0 [] (some ad) n c _ (by rfl) (by rfl) (hr.below hal) (rqs_one_cell l) hown hal hal.size (by omega) ?_; intro v1 w1 h1 h2 h3 h4)
    go_ret
    refine ⟨⟨_, rfl, ?_⟩, h2⟩
    simpa using h1
end Go.Proofs.Ytdfncmhbbhmgfaa
