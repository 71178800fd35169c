/- The law ReadyActs holds: for any number and any acts the call returns true, and the arguments read as they did. No condition. -/
import Derived.Test.YtabdipfpfbdghaaGreatZReaActs
namespace Go.Proofs.YtabdipfpfbdghaaGreat.readyActs
open Go.RowKit
theorem leaves_1 : leaves Tryz.prog 6 22 = some [.slice 29] := actLeaves
theorem law (most : Int) (A : Option Addr) (n c : Nat) (l : List Ac3) (w : World) (hr : Rds w 3 A n c (acs3 l)) :
    Calls Tryz.prog 3 #[.int .i64 most, .slice A n c] w fun e w' => e = .returned (.bool true) ∧ Go.RowKit.Below w.heap.size w w' := by
  by_cases h : 200 < n ∨ most < 1 ∨ 100 < most
  · exact racts_lives most A n c w h
  · obtain ⟨m, rfl⟩ : ∃ m : Nat, most = (m : Int) := ⟨most.toNat, by omega⟩
    exact racts_walk m A n c l w hr (by omega) (by omega) (by omega)
end Go.Proofs.YtabdipfpfbdghaaGreat.readyActs
namespace Go.Proofs.YtabdipfpfbdghaaGreat.readyActs
open Go.ChangeShapes Go.WideShapes Go.ChangeAt Go.RowKit
open Go.ChangeMaps (open_string shut_string)
set_option linter.unusedVariables false
theorem own : ownKnob Tryz.prog.godebug = none := by kernel_rfl
theorem laidOut : laidOutB Tryz.prog = true := by kernel_rfl
set_option maxRecDepth 100000 in
set_option maxHeartbeats 1000000 in
theorem lifted (os : Os) (started : os.Started) (H : Type) (enc : TypeId × Value → H) :
    ReturnsInHanded {} Tryz.checked os 3 .any (Rows.readyActsSpec.pre6 enc Tryz.prog Tryz.f3 Rows.readyActsRow.domain false) (Rows.readyActsSpec.post enc Tryz.prog Tryz.f3 false true false false) := by
  refine returnsInHanded_of_change_sized (C := Tryz.checked) own started (by kernel_rfl) Tryz.func3
    (ChangeSpec.witness6 (enc := enc) (C := Tryz.checked) false ⟨#[], #[.int .i64 0, .slice none 0 0], []⟩ 8 (by kernel_rfl) (by kernel_rfl) (by kernel_rfl) (by kernel_rfl)) ?_
  intro W base args ds gs before hval0 hW hcnd hsz0 _
  have hval : ∀ (j : Nat) t v, Tryz.f3.params[j]? = some t → args[j]? = some v → Value.okWide Tryz.prog W .any base t v := hval0
  have hW' := hW
  obtain ⟨p, q, hA0, hV, rfl, hfz, hnd⟩ := hW
  have hA : DataW.TrodAll enc Tryz.prog W 0 (fun _ => true) true Tryz.f3.params.toList args.toList ds p := hA0
  rw [Tryz.params3] at hA hval
  obtain ⟨v0, vs0, d0, ds0, p0, q0, hargs, rfl, rfl, h0, r0⟩ := trodAll_cons hA
  obtain ⟨v1, vs1, d1, ds1, p1, q1, rfl, rfl, rfl, h1, r1⟩ := trodAll_cons r0
  obtain ⟨rfl, rfl, rfl⟩ := trodAll_nil r1
  obtain rfl : args = #[v0, v1] := by cases args; simp_all
  obtain ⟨rfl, rfl⟩ := trodVars_none hV
  have k0 := h0
  have lt0 : ∀ x ∈ p0, x.block < W.heap.size := by obtain ⟨m, hm⟩ := k0; exact DataW.trod_lt m _ _ _ hm
  obtain ⟨n0, rfl, _, _, wn0⟩ := open_int Tryz.underlying3 (hval 0 3 v0 rfl rfl) h0
  have k1 := h1
  have lt1 : ∀ x ∈ p1, x.block < W.heap.size := by obtain ⟨m, hm⟩ := k1; exact DataW.trod_lt m _ _ _ hm
  obtain ⟨a1, len1, cap1, rfl⟩ := okWide_slice Tryz.underlying22 (hval 1 22 v1 rfl rfl)
  obtain ⟨fuel1, hf1⟩ := h1
  have ok1 := opens 3 6 fuel1 _ _ _ _ hf1 (leaves_1)
  clear hA0 hval0 hsz0
  obtain ⟨_, _, e1, l1, _⟩ := allOk_cons ok1
  obtain ⟨A', n', c', xs1, e', hr1⟩ := leaf_acs3 (by kernel_rfl) actLeaves2 l1
  subst e'
  simp only [Value.cells, List.cons.injEq, Value.slice.injEq] at e1
  obtain ⟨⟨rfl, rfl, rfl⟩, _⟩ := e1
  refine (law n0 a1 len1 cap1 xs1 W hr1).mono fun e W' ⟨he, bel⟩ => ?_
  subst he
  exact ⟨_, rfl, _, _, _, [], _, [], hW', trodAll_mk1 (shut_bool Tryz.underlying4 _), (trodAll_cons_mk (Below.trod laidOut (by kernel_rfl) (of_decide_eq_true (by kernel_rfl)) k0 bel lt0) (trodAll_cons_mk (Below.trod laidOut (by kernel_rfl) (of_decide_eq_true (by kernel_rfl)) k1 bel lt1) trodAll_mk0)), rfl, bel.frame _, fun h => by cases h⟩
theorem over : Rows.readyActsRow.holds Tryz.pinned (OpenSpec.ofChange Rows.readyActsSpec) :=
  OpenClaim.holds_of_wide 3 Tryz.f3 rfl rfl rfl rfl rfl rfl rfl ⟨rfl, rfl, rfl, rfl, rfl⟩ rfl rfl rfl rfl rfl (by kernel_rfl) Tryz.func3 (by kernel_rfl)
    (of_decide_eq_true (by kernel_rfl)) (by unfold Func.isWrapper; first | (rw [if_pos (by decide +kernel)]; kernel_rfl) | (rw [if_neg (by decide +kernel)]; exact ⟨rfl, rfl⟩))
    (fun os started H enc _ => lifted os started H enc)
end Go.Proofs.YtabdipfpfbdghaaGreat.readyActs
namespace Go.Proofs.YtabdipfpfbdghaaGreat
theorem readyActs_holds : Rows.ReadyActsSaid := readyActs.over
end Go.Proofs.YtabdipfpfbdghaaGreat
