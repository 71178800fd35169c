/- The law MovesPlans holds: for any owners, target and moves the call returns true, and the arguments read as they did. No condition. -/
import Derived.Test.YtjpclnmohemjlaaPlans09
import Derived.Test.YtjpclnmohemjlaaOpen
namespace Go.Proofs.Ytjpclnmohemjlaa.movesPlans
theorem leaves_2 : leaves Try.prog 6 30 = some [.slice 40] := by kernel_rfl
theorem leaves_move : leaves Try.prog 6 40 = some [.int .i64, .int .i64, .int .i64] := by kernel_rfl
theorem leaf_mvs {w : World} {d : Nat} {v : Value} (h : LeafOk Try.prog w (d + 1) (.slice 40) v) : ∃ A n c l, v = .slice A n c ∧ Rds w 3 A n c (mvs l) := by
  obtain ⟨A, n, c, rows, rfl, hr⟩ := h
  obtain ⟨l, rfl, _⟩ := rows_map (f := mvC) (good := fun _ => True) (rows := rows) (by
    intro r hr'
    have h1 := (hr.el r hr').2 _ leaves_move
    obtain ⟨x, _, rfl, h2, o2⟩ := allOk_cons h1
    obtain ⟨y, _, rfl, h3, o3⟩ := allOk_cons o2
    obtain ⟨z, _, rfl, h4, o4⟩ := allOk_cons o3
    obtain rfl := allOk_nil o4
    have k2 : ∃ n, x = .int .i64 n := by cases d <;> (obtain ⟨n, rfl, _⟩ := h2; exact ⟨n, rfl⟩)
    have k3 : ∃ n, y = .int .i64 n := by cases d <;> (obtain ⟨n, rfl, _⟩ := h3; exact ⟨n, rfl⟩)
    have k4 : ∃ n, z = .int .i64 n := by cases d <;> (obtain ⟨n, rfl, _⟩ := h4; exact ⟨n, rfl⟩)
    obtain ⟨x, rfl⟩ := k2
    obtain ⟨y, rfl⟩ := k3
    obtain ⟨z, rfl⟩ := k4
    exact ⟨⟨x, y, z⟩, rfl, trivial⟩)
  have h2 := hr.rds
  rw [show Try.prog.cellsOf 40 = 3 by kernel_rfl] at h2
  exact ⟨A, n, c, l, rfl, by rw [List.flatMap_def.symm] at h2 <;> exact h2⟩
end Go.Proofs.Ytjpclnmohemjlaa.movesPlans
namespace Go.Proofs.Ytjpclnmohemjlaa.movesPlans
open Go.ChangeShapes Go.WideShapes Go.ChangeAt Go.RowKit
open Go.ChangeMaps (open_string shut_string)
set_option linter.unusedVariables false
theorem own : ownKnob Try.prog.godebug = none := by kernel_rfl
theorem laidOut : laidOutB Try.prog = true := by kernel_rfl
set_option maxRecDepth 100000 in
set_option maxHeartbeats 1000000 in
theorem lifted (os : Os) (started : os.Started) (H : Type) (enc : TypeId × Value → H) :
    ReturnsInHanded {} Try.checked os 4 .any (Rows.movesPlansSpec.pre6 enc Try.prog Try.f4 Rows.movesPlansRow.domain false) (Rows.movesPlansSpec.post enc Try.prog Try.f4 false true false false) := by
  refine returnsInHanded_of_change_sized (C := Try.checked) own started (by kernel_rfl) Try.func4
    (ChangeSpec.witness6 (enc := enc) (C := Try.checked) false ⟨#[], #[.slice none 0 0, .slice none 0 0, .slice none 0 0], []⟩ 8 (by kernel_rfl) (by kernel_rfl) (by kernel_rfl) (by kernel_rfl)) ?_
  intro W base args ds gs before hval0 hW hcnd hsz0 _
  have hval : ∀ (j : Nat) t v, Try.f4.params[j]? = some t → args[j]? = some v → Value.okWide Try.prog W .any base t v := hval0
  have hW' := hW
  obtain ⟨p, q, hA0, hV, rfl, hfz, hnd⟩ := hW
  have hA : DataW.TrodAll enc Try.prog W 0 (fun _ => true) true Try.f4.params.toList args.toList ds p := hA0
  rw [Try.params4] at hA hval
  obtain ⟨v0, vs0, d0, ds0, p0, q0, hargs, rfl, rfl, h0, r0⟩ := trodAll_cons hA
  obtain ⟨v1, vs1, d1, ds1, p1, q1, rfl, rfl, rfl, h1, r1⟩ := trodAll_cons r0
  obtain ⟨v2, vs2, d2, ds2, p2, q2, rfl, rfl, rfl, h2, r2⟩ := trodAll_cons r1
  obtain ⟨rfl, rfl, rfl⟩ := trodAll_nil r2
  obtain rfl : args = #[v0, v1, v2] := by cases args; simp_all
  obtain ⟨rfl, rfl⟩ := trodVars_none hV
  have k0 := h0
  have lt0 : ∀ x ∈ p0, x.block < W.heap.size := by obtain ⟨m, hm⟩ := k0; exact DataW.trod_lt m _ _ _ hm
  obtain ⟨a0, len0, cap0, rfl⟩ := okWide_slice Try.underlying22 (hval 0 22 v0 rfl rfl)
  obtain ⟨fuel0, hf0⟩ := h0
  have ok0 := opens 3 6 fuel0 _ _ _ _ hf0 (by kernel_rfl : leaves Try.prog 6 22 = some [.slice 3])
  obtain ⟨_, _, e0, l0, _⟩ := allOk_cons ok0
  obtain ⟨A', n', c', xs0, e', hr0, hx0⟩ := leaf_nums (k := .i64) (by kernel_rfl) (by kernel_rfl) l0
  subst e'
  simp only [Value.cells, List.cons.injEq, Value.slice.injEq] at e0
  obtain ⟨⟨rfl, rfl, rfl⟩, _⟩ := e0
  have k1 := h1
  have lt1 : ∀ x ∈ p1, x.block < W.heap.size := by obtain ⟨m, hm⟩ := k1; exact DataW.trod_lt m _ _ _ hm
  obtain ⟨a1, len1, cap1, rfl⟩ := okWide_slice Try.underlying22 (hval 1 22 v1 rfl rfl)
  obtain ⟨fuel1, hf1⟩ := h1
  have ok1 := opens 3 6 fuel1 _ _ _ _ hf1 (by kernel_rfl : leaves Try.prog 6 22 = some [.slice 3])
  obtain ⟨_, _, e1, l1, _⟩ := allOk_cons ok1
  obtain ⟨A', n', c', xs1, e', hr1, hx1⟩ := leaf_nums (k := .i64) (by kernel_rfl) (by kernel_rfl) l1
  subst e'
  simp only [Value.cells, List.cons.injEq, Value.slice.injEq] at e1
  obtain ⟨⟨rfl, rfl, rfl⟩, _⟩ := e1
  have k2 := h2
  have lt2 : ∀ x ∈ p2, x.block < W.heap.size := by obtain ⟨m, hm⟩ := k2; exact DataW.trod_lt m _ _ _ hm
  obtain ⟨a2, len2, cap2, rfl⟩ := okWide_slice Try.underlying30 (hval 2 30 v2 rfl rfl)
  obtain ⟨fuel2, hf2⟩ := h2
  have ok2 := opens 3 6 fuel2 _ _ _ _ hf2 (leaves_2)
  clear hA0 hval0 hsz0
  obtain ⟨_, _, e2, l2, _⟩ := allOk_cons ok2
  obtain ⟨A', n', c', l, e', hr2⟩ := leaf_mvs l2
  subst e'
  simp only [Value.cells, List.cons.injEq, Value.slice.injEq] at e2
  obtain ⟨⟨rfl, rfl, rfl⟩, _⟩ := e2
  refine (plansLaw a0 len0 cap0 xs0 a1 len1 cap1 xs1 a2 len2 cap2 l W hr0 hr1 hr2 (fun t ht => i64_of_wf (hx1 t ht))).mono fun e W' ⟨he, bel⟩ => ?_
  subst he
  exact ⟨_, rfl, _, _, _, [], _, [], hW', trodAll_mk1 (shut_bool Try.underlying4 _), (trodAll_cons_mk (Below.trod laidOut (by kernel_rfl) (of_decide_eq_true (by kernel_rfl)) k0 bel lt0) (trodAll_cons_mk (Below.trod laidOut (by kernel_rfl) (of_decide_eq_true (by kernel_rfl)) k1 bel lt1) (trodAll_cons_mk (Below.trod laidOut (by kernel_rfl) (of_decide_eq_true (by kernel_rfl)) k2 bel lt2) trodAll_mk0))), rfl, bel.frame _, fun h => by cases h⟩
theorem over : Rows.movesPlansRow.holds Try.pinned (OpenSpec.ofChange Rows.movesPlansSpec) :=
  OpenClaim.holds_of_wide 4 Try.f4 rfl rfl rfl rfl rfl rfl rfl ⟨rfl, rfl, rfl, rfl, rfl⟩ rfl rfl rfl rfl rfl (by kernel_rfl) Try.func4 (by kernel_rfl)
    (of_decide_eq_true (by kernel_rfl)) (by unfold Func.isWrapper; first | (rw [if_pos (by decide +kernel)]; kernel_rfl) | (rw [if_neg (by decide +kernel)]; exact ⟨rfl, rfl⟩))
    (fun os started H enc _ => lifted os started H enc)
end Go.Proofs.Ytjpclnmohemjlaa.movesPlans
namespace Go.Proofs.Ytjpclnmohemjlaa
theorem movesPlans_holds : Rows.MovesPlansSaid := movesPlans.over
end Go.Proofs.Ytjpclnmohemjlaa
