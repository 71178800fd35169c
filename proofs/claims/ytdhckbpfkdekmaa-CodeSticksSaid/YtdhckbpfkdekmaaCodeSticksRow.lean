/- The law CodeSticks holds: for any bytes and any asks the call returns true, and the arguments read as they did. No condition. -/
import Derived.Test.YtdhckbpfkdekmaaCodeSticks
import Derived.Test.YtdhckbpfkdekmaaAskOpen
namespace Go.Proofs.Ytdhckbpfkdekmaa.codeSticks
theorem leaves_1 : leaves Try.prog 6 51 = some [.slice 42] := askLeaves
theorem leaves_2 : leaves Try.prog 6 51 = some [.slice 42] := askLeaves
theorem law (A : Option Addr) (n c : Nat) (bs : List Int) (D : Option Addr) (m d : Nat) (l : List AskV) (E : Option Addr) (p e : Nat) (l2 : List AskV) (w : World) (hr : Rds w 1 A n c (nums .u8 bs)) (hr2 : Rds w 5 D m d (asks l)) (hr3 : Rds w 5 E p e (asks l2)) (hq : ∀ q ∈ l, q.ok) (hb : U8s bs) :
    Calls Try.prog 7 #[.slice A n c, .slice D m d, .slice E p e] w fun e w' => e = .returned (.bool true) ∧ Go.RowKit.Below w.heap.size w w' := by
  by_cases h1 : 200 < n
  · exact sticks_lives1 A D E n c m d p e w h1
  · by_cases h2 : 40 < m
    · exact sticks_lives2 A D E n c m d p e w (by omega) h2
    · by_cases h3 : 20 < p
      · exact sticks_lives3 A D E n c m d p e w (by omega) (by omega) h3
      · exact sticks_walk A n c bs D m d l E p e l2 w hr hr2 hr3 hq hb (by omega) (by omega) (by omega)
end Go.Proofs.Ytdhckbpfkdekmaa.codeSticks
namespace Go.Proofs.Ytdhckbpfkdekmaa.codeSticks
open Go.ChangeShapes Go.WideShapes Go.ChangeAt Go.RowKit
open Go.ChangeMaps (open_string shut_string)
set_option linter.unusedVariables false
theorem own : ownKnob Try.prog.godebug = none := by kernel_rfl
theorem laidOut : laidOutB Try.prog = true := by kernel_rfl
set_option maxRecDepth 100000 in
set_option maxHeartbeats 1000000 in
theorem lifted (os : Os) (started : os.Started) (H : Type) (enc : TypeId × Value → H) :
    ReturnsInHanded {} Try.checked os 7 .any (Rows.codeSticksSpec.pre6 enc Try.prog Try.f7 Rows.codeSticksRow.domain false) (Rows.codeSticksSpec.post enc Try.prog Try.f7 false true false false) := by
  refine returnsInHanded_of_change_sized (C := Try.checked) own started (by kernel_rfl) Try.func7
    (ChangeSpec.witness6 (enc := enc) (C := Try.checked) false ⟨#[], #[.slice none 0 0, .slice none 0 0, .slice none 0 0], []⟩ 8 (by kernel_rfl) (by kernel_rfl) (by kernel_rfl) (by kernel_rfl)) ?_
  intro W base args ds gs before hval0 hW hcnd hsz0 _
  have hval : ∀ (j : Nat) t v, Try.f7.params[j]? = some t → args[j]? = some v → Value.okWide Try.prog W .any base t v := hval0
  have hW' := hW
  obtain ⟨p, q, hA0, hV, rfl, hfz, hnd⟩ := hW
  have hA : DataW.TrodAll enc Try.prog W 0 (fun _ => true) true Try.f7.params.toList args.toList ds p := hA0
  rw [Try.params7] at hA hval
  obtain ⟨v0, vs0, d0, ds0, p0, q0, hargs, rfl, rfl, h0, r0⟩ := trodAll_cons hA
  obtain ⟨v1, vs1, d1, ds1, p1, q1, rfl, rfl, rfl, h1, r1⟩ := trodAll_cons r0
  obtain ⟨v2, vs2, d2, ds2, p2, q2, rfl, rfl, rfl, h2, r2⟩ := trodAll_cons r1
  obtain ⟨rfl, rfl, rfl⟩ := trodAll_nil r2
  obtain rfl : args = #[v0, v1, v2] := by cases args; simp_all
  obtain ⟨rfl, rfl⟩ := trodVars_none hV
  have k0 := h0
  have lt0 : ∀ x ∈ p0, x.block < W.heap.size := by obtain ⟨m, hm⟩ := k0; exact DataW.trod_lt m _ _ _ hm
  obtain ⟨a0, len0, cap0, rfl⟩ := okWide_slice Try.underlying22 (hval 0 22 v0 rfl rfl)
  obtain ⟨fuel0, hf0⟩ := h0
  have ok0 := opens 3 6 fuel0 _ _ _ _ hf0 (by kernel_rfl : leaves Try.prog 6 22 = some [.slice 5])
  obtain ⟨_, _, e0, l0, _⟩ := allOk_cons ok0
  obtain ⟨A', n', c', xs0, e', hr0, hx0⟩ := leaf_nums (k := .u8) (by kernel_rfl) (by kernel_rfl) l0
  subst e'
  simp only [Value.cells, List.cons.injEq, Value.slice.injEq] at e0
  obtain ⟨⟨rfl, rfl, rfl⟩, _⟩ := e0
  have k1 := h1
  have lt1 : ∀ x ∈ p1, x.block < W.heap.size := by obtain ⟨m, hm⟩ := k1; exact DataW.trod_lt m _ _ _ hm
  obtain ⟨a1, len1, cap1, rfl⟩ := okWide_slice Try.underlying51 (hval 1 51 v1 rfl rfl)
  obtain ⟨fuel1, hf1⟩ := h1
  have ok1 := opens 3 6 fuel1 _ _ _ _ hf1 (leaves_1)
  have k2 := h2
  have lt2 : ∀ x ∈ p2, x.block < W.heap.size := by obtain ⟨m, hm⟩ := k2; exact DataW.trod_lt m _ _ _ hm
  obtain ⟨a2, len2, cap2, rfl⟩ := okWide_slice Try.underlying51 (hval 2 51 v2 rfl rfl)
  obtain ⟨fuel2, hf2⟩ := h2
  have ok2 := opens 3 6 fuel2 _ _ _ _ hf2 (leaves_2)
  clear hA0 hval0 hsz0
  obtain ⟨_, _, e1, l1, _⟩ := allOk_cons ok1
  obtain ⟨A', n', c', xs1, e', hr1, hx1⟩ := leaf_asks (by kernel_rfl) askLeaves2 l1
  subst e'
  simp only [Value.cells, List.cons.injEq, Value.slice.injEq] at e1
  obtain ⟨⟨rfl, rfl, rfl⟩, _⟩ := e1
  obtain ⟨_, _, e2, l2, _⟩ := allOk_cons ok2
  obtain ⟨A', n', c', xs2, e', hr2, hx2⟩ := leaf_asks (by kernel_rfl) askLeaves2 l2
  subst e'
  simp only [Value.cells, List.cons.injEq, Value.slice.injEq] at e2
  obtain ⟨⟨rfl, rfl, rfl⟩, _⟩ := e2
  refine (law a0 len0 cap0 xs0 a1 len1 cap1 xs1 a2 len2 cap2 xs2 W hr0 hr1 hr2 hx1 (u8s_of_wf hx0)).mono fun e W' ⟨he, bel⟩ => ?_
  subst he
  exact ⟨_, rfl, _, _, _, [], _, [], hW', trodAll_mk1 (shut_bool Try.underlying4 _), (trodAll_cons_mk (Below.trod laidOut (by kernel_rfl) (of_decide_eq_true (by kernel_rfl)) k0 bel lt0) (trodAll_cons_mk (Below.trod laidOut (by kernel_rfl) (of_decide_eq_true (by kernel_rfl)) k1 bel lt1) (trodAll_cons_mk (Below.trod laidOut (by kernel_rfl) (of_decide_eq_true (by kernel_rfl)) k2 bel lt2) trodAll_mk0))), rfl, bel.frame _, fun h => by cases h⟩
theorem over : Rows.codeSticksRow.holds Try.pinned (OpenSpec.ofChange Rows.codeSticksSpec) :=
  OpenClaim.holds_of_wide 7 Try.f7 rfl rfl rfl rfl rfl rfl rfl ⟨rfl, rfl, rfl, rfl, rfl⟩ rfl rfl rfl rfl rfl (by kernel_rfl) Try.func7 (by kernel_rfl)
    (of_decide_eq_true (by kernel_rfl)) (by unfold Func.isWrapper; first | (rw [if_pos (by decide +kernel)]; kernel_rfl) | (rw [if_neg (by decide +kernel)]; exact ⟨rfl, rfl⟩))
    (fun os started H enc _ => lifted os started H enc)
end Go.Proofs.Ytdhckbpfkdekmaa.codeSticks
namespace Go.Proofs.Ytdhckbpfkdekmaa
theorem codeSticks_holds : Rows.CodeSticksSaid := codeSticks.over
end Go.Proofs.Ytdhckbpfkdekmaa
