/- The law MailOrder holds: for any events and any numbers the call returns true, and the arguments read as they did. No condition. -/
import Derived.Test.YtjefnhlpidjndaaMailOrder
import Derived.Test.YtjefnhlpidjndaaEvOpen
namespace Go.Proofs.Ytjefnhlpidjndaa.mailOrder
theorem leaves_0 : leaves Try.prog 6 22 = some [.slice 31] := evLeaves
theorem u8s_of_wf {xs : List Int} (h : ∀ x ∈ xs, (Lit.int .u8 x).wf = true) : ∀ x ∈ xs, 0 ≤ x ∧ x < 256 := by
  intro x hx
  have hw := h x hx
  have hmin : IntKind.u8.min = 0 := rfl
  have hmax : IntKind.u8.max = 255 := rfl
  simp only [Lit.wf, Bool.and_eq_true, decide_eq_true_eq] at hw
  omega
theorem law (A : Option Addr) (n c : Nat) (l : List Ev) (D : Option Addr) (m d : Nat) (ms : List Int) (w : World) (hr : Rds w 15 A n c (evs l)) (hr2 : Rds w 1 D m d (nums .u8 ms)) (hms : ∀ x ∈ ms, 0 ≤ x ∧ x < 256) :
    Calls Try.prog 3 #[.slice A n c, .slice D m d] w fun e w' => e = .returned (.bool true) ∧ Go.RowKit.Below w.heap.size w w' := by
  by_cases h1 : 40 < n
  · exact order_lives1 A n c D m d w h1
  · by_cases h2 : 100 < m
    · exact order_lives2 A n c D m d w (by omega) h2
    · exact order_walk A n c l D m d ms w hr hr2 hms (by omega) (by omega)
end Go.Proofs.Ytjefnhlpidjndaa.mailOrder
namespace Go.Proofs.Ytjefnhlpidjndaa.mailOrder
open Go.ChangeShapes Go.WideShapes Go.ChangeAt Go.RowKit
open Go.ChangeMaps (open_string shut_string)
set_option linter.unusedVariables false
theorem own : ownKnob Try.prog.godebug = none := by kernel_rfl
theorem laidOut : laidOutB Try.prog = true := by kernel_rfl
set_option maxRecDepth 100000 in
set_option maxHeartbeats 1000000 in
theorem lifted (os : Os) (started : os.Started) (H : Type) (enc : TypeId × Value → H) :
    ReturnsInHanded {} Try.checked os 3 .any (Rows.mailOrderSpec.pre6 enc Try.prog Try.f3 Rows.mailOrderRow.domain false) (Rows.mailOrderSpec.post enc Try.prog Try.f3 false true false false) := by
  refine returnsInHanded_of_change_sized (C := Try.checked) own started (by kernel_rfl) Try.func3
    (ChangeSpec.witness6 (enc := enc) (C := Try.checked) false ⟨#[], #[.slice none 0 0, .slice none 0 0], []⟩ 8 (by kernel_rfl) (by kernel_rfl) (by kernel_rfl) (by kernel_rfl)) ?_
  intro W base args ds gs before hval0 hW hcnd hsz0 _
  have hval : ∀ (j : Nat) t v, Try.f3.params[j]? = some t → args[j]? = some v → Value.okWide Try.prog W .any base t v := hval0
  have hW' := hW
  obtain ⟨p, q, hA0, hV, rfl, hfz, hnd⟩ := hW
  have hA : DataW.TrodAll enc Try.prog W 0 (fun _ => true) true Try.f3.params.toList args.toList ds p := hA0
  rw [Try.params3] at hA hval
  obtain ⟨v0, vs0, d0, ds0, p0, q0, hargs, rfl, rfl, h0, r0⟩ := trodAll_cons hA
  obtain ⟨v1, vs1, d1, ds1, p1, q1, rfl, rfl, rfl, h1, r1⟩ := trodAll_cons r0
  obtain ⟨rfl, rfl, rfl⟩ := trodAll_nil r1
  obtain rfl : args = #[v0, v1] := by cases args; simp_all
  obtain ⟨rfl, rfl⟩ := trodVars_none hV
  have k0 := h0
  have lt0 : ∀ x ∈ p0, x.block < W.heap.size := by obtain ⟨m, hm⟩ := k0; exact DataW.trod_lt m _ _ _ hm
  obtain ⟨a0, len0, cap0, rfl⟩ := okWide_slice Try.underlying22 (hval 0 22 v0 rfl rfl)
  obtain ⟨fuel0, hf0⟩ := h0
  have ok0 := opens 3 6 fuel0 _ _ _ _ hf0 (leaves_0)
  have k1 := h1
  have lt1 : ∀ x ∈ p1, x.block < W.heap.size := by obtain ⟨m, hm⟩ := k1; exact DataW.trod_lt m _ _ _ hm
  obtain ⟨a1, len1, cap1, rfl⟩ := okWide_slice Try.underlying23 (hval 1 23 v1 rfl rfl)
  obtain ⟨fuel1, hf1⟩ := h1
  have ok1 := opens 3 6 fuel1 _ _ _ _ hf1 (by kernel_rfl : leaves Try.prog 6 23 = some [.slice 5])
  obtain ⟨_, _, e1, l1, _⟩ := allOk_cons ok1
  obtain ⟨A', n', c', xs1, e', hr1, hx1⟩ := leaf_nums (k := .u8) (by kernel_rfl) (by kernel_rfl) l1
  subst e'
  simp only [Value.cells, List.cons.injEq, Value.slice.injEq] at e1
  obtain ⟨⟨rfl, rfl, rfl⟩, _⟩ := e1
  clear hA0 hval0 hsz0
  obtain ⟨_, _, e0, l0, _⟩ := allOk_cons ok0
  obtain ⟨A', n', c', xs0, e', hr0, hx0⟩ := leaf_evs (by kernel_rfl) evLeaves2 l0
  subst e'
  simp only [Value.cells, List.cons.injEq, Value.slice.injEq] at e0
  obtain ⟨⟨rfl, rfl, rfl⟩, _⟩ := e0
  refine (law a0 len0 cap0 xs0 a1 len1 cap1 xs1 W hr0 hr1 (u8s_of_wf hx1)).mono fun e W' ⟨he, bel⟩ => ?_
  subst he
  exact ⟨_, rfl, _, _, _, [], _, [], hW', trodAll_mk1 (shut_bool Try.underlying4 _), (trodAll_cons_mk (Below.trod laidOut (by kernel_rfl) (of_decide_eq_true (by kernel_rfl)) k0 bel lt0) (trodAll_cons_mk (Below.trod laidOut (by kernel_rfl) (of_decide_eq_true (by kernel_rfl)) k1 bel lt1) trodAll_mk0)), rfl, bel.frame _, fun h => by cases h⟩
theorem over : Rows.mailOrderRow.holds Try.pinned (OpenSpec.ofChange Rows.mailOrderSpec) :=
  OpenClaim.holds_of_wide 3 Try.f3 rfl rfl rfl rfl rfl rfl rfl ⟨rfl, rfl, rfl, rfl, rfl⟩ rfl rfl rfl rfl rfl (by kernel_rfl) Try.func3 (by kernel_rfl)
    (of_decide_eq_true (by kernel_rfl)) (by unfold Func.isWrapper; first | (rw [if_pos (by decide +kernel)]; kernel_rfl) | (rw [if_neg (by decide +kernel)]; exact ⟨rfl, rfl⟩))
    (fun os started H enc _ => lifted os started H enc)
end Go.Proofs.Ytjefnhlpidjndaa.mailOrder
namespace Go.Proofs.Ytjefnhlpidjndaa
theorem mailOrder_holds : Rows.MailOrderSaid := mailOrder.over
end Go.Proofs.Ytjefnhlpidjndaa
