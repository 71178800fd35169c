/- The law HeapActs holds: for any number and any acts the call returns true, and the arguments read as they did. No condition. -/
import Derived.Test.YtopikpjagjnbhaaZRfActs
import Derived.Test.YtopikpjagjnbhaaOpen
namespace Go.Proofs.Ytopikpjagjnbhaa
open Go.RowKit
theorem i64_wf6 {x : Int} (h : (Lit.int .i64 x).wf = true) : I64 x := by
  have hmin : IntKind.i64.min = -9223372036854775808 := rfl
  have hmax : IntKind.i64.max = 9223372036854775807 := rfl
  simp only [Lit.wf, Bool.and_eq_true, decide_eq_true_eq] at h
  unfold I64
  omega
theorem leaf_acs3 {P : Program} {w : World} {d : Nat} {e : TypeId} {v : Value} (hc : P.cellsOf e = 3) (hl : leaves P 6 e = some [.int .i64, .int .i64, .int .i64]) (h : LeafOk P w (d + 1) (.slice e) v) :
    ∃ A n c l, v = .slice A n c ∧ Rds w 3 A n c (acs3 l) ∧ ∀ a ∈ l, I64 a.tk := by
  have one : ∀ v, LeafOk P w d (.int .i64) v → ∃ n, v = .int .i64 n ∧ I64 n := by
    intro v h
    have h4 : ∃ n, v = .int .i64 n ∧ (Lit.int .i64 n).wf = true := by cases d <;> exact h
    obtain ⟨n, rfl, hw⟩ := h4
    exact ⟨n, rfl, i64_wf6 hw⟩
  obtain ⟨A, n, c, rows, rfl, hr⟩ := h
  obtain ⟨xs, rfl, hg⟩ := rows_map (f := acC3) (good := fun a => I64 a.tk) (rows := rows) (by
    intro r hr'
    have h1 := (hr.el r hr').2 _ hl
    obtain ⟨v1, vs, rfl, k1, h1⟩ := allOk_cons h1
    obtain ⟨v2, vs, rfl, k2, h1⟩ := allOk_cons h1
    obtain ⟨v3, vs, rfl, k3, h1⟩ := allOk_cons h1
    have := allOk_nil h1
    subst this
    obtain ⟨n1, rfl, _⟩ := one _ k1
    obtain ⟨n2, rfl, _⟩ := one _ k2
    obtain ⟨n3, rfl, hn3⟩ := one _ k3
    exact ⟨⟨n1, n2, n3⟩, rfl, hn3⟩)
  have := hr.rds
  rw [hc] at this
  exact ⟨A, n, c, xs, rfl, this, hg⟩
theorem actLeaves : leaves Try.prog 6 40 = some [.slice 44] := by kernel_rfl
theorem actLeaves2 : leaves Try.prog 6 44 = some [.int .i64, .int .i64, .int .i64] := by kernel_rfl
set_option maxRecDepth 100000 in
set_option maxHeartbeats 4000000 in
theorem hacts_lives (most : Int) (A : Option Addr) (n c : Nat) (w : World) (h : 200 < n ∨ most < 1 ∨ 4096 < most) : Calls Try.prog 5 #[.int .i64 most, .slice A n c] w fun e w' => e = .returned (.bool true) ∧ Below w.heap.size w w' := by
  have HL := Lib.hid (fun W => lives06 W)
  by_cases h1 : 200 < n
  · have h2 : (200 : Int) < (n : Int) := by omega
    clear h
    go_enter Try.func5, Try.ntmps5
    go_wp2_with (go_at_call 8; (with_reducible refine (HL.out _).mono ?_); rintro e w' ⟨rfl, hb⟩)
    go_ret
    exact ⟨rfl, hb⟩
  · have h3 : ¬ (200 : Int) < (n : Int) := by omega
    have h4 : most < 1 ∨ 4096 < most := by omega
    have HD := Lib.hid (hnewNo most w h4)
    have HR := Lib.hid (rfnewNo most w h4)
    clear h h4
    go_enter Try.func5, Try.ntmps5
    go_wp2_with (first
      | (go_at_call 8; (with_reducible refine (HL.out _).mono ?_); rintro e w' ⟨rfl, hb⟩)
      | (go_at_call 9; (with_reducible refine HD.out.mono ?_); rintro e w1 ⟨rfl, rfl⟩)
      | (go_at_call 19; (with_reducible refine HR.out.mono ?_); rintro e w1 ⟨rfl, rfl⟩))
    go_ret
    exact ⟨rfl, hb⟩
end Go.Proofs.Ytopikpjagjnbhaa
namespace Go.Proofs.Ytopikpjagjnbhaa.heapActs
open Go.RowKit
theorem leaves_1 : leaves Try.prog 6 40 = some [.slice 44] := actLeaves
theorem law (most : Int) (A : Option Addr) (n c : Nat) (l : List Ac3) (w : World) (hr : Rds w 3 A n c (acs3 l)) (hk : ∀ a ∈ l, I64 a.tk) :
    Calls Try.prog 5 #[.int .i64 most, .slice A n c] w fun e w' => e = .returned (.bool true) ∧ Go.RowKit.Below w.heap.size w w' := by
  by_cases h : 200 < n ∨ most < 1 ∨ 4096 < most
  · exact hacts_lives most A n c w h
  · obtain ⟨m, rfl⟩ : ∃ m : Nat, most = (m : Int) := ⟨most.toNat, by omega⟩
    exact hacts_walk m A n c l w hr hk (by omega) (by omega) (by omega)
end Go.Proofs.Ytopikpjagjnbhaa.heapActs
namespace Go.Proofs.Ytopikpjagjnbhaa.heapActs
open Go.ChangeShapes Go.WideShapes Go.ChangeAt Go.RowKit
open Go.ChangeMaps (open_string shut_string)
set_option linter.unusedVariables false
theorem own : ownKnob Try.prog.godebug = none := by kernel_rfl
theorem laidOut : laidOutB Try.prog = true := by kernel_rfl
set_option maxRecDepth 100000 in
set_option maxHeartbeats 1000000 in
theorem lifted (os : Os) (started : os.Started) (H : Type) (enc : TypeId × Value → H) :
    ReturnsInHanded {} Try.checked os 5 .any (Rows.heapActsSpec.pre6 enc Try.prog Try.f5 Rows.heapActsRow.domain false) (Rows.heapActsSpec.post enc Try.prog Try.f5 false true false false) := by
  refine returnsInHanded_of_change_sized (C := Try.checked) own started (by kernel_rfl) Try.func5
    (ChangeSpec.witness6 (enc := enc) (C := Try.checked) false ⟨#[], #[.int .i64 0, .slice none 0 0], []⟩ 8 (by kernel_rfl) (by kernel_rfl) (by kernel_rfl) (by kernel_rfl)) ?_
  intro W base args ds gs before hval0 hW hcnd hsz0 _
  have hval : ∀ (j : Nat) t v, Try.f5.params[j]? = some t → args[j]? = some v → Value.okWide Try.prog W .any base t v := hval0
  have hW' := hW
  obtain ⟨p, q, hA0, hV, rfl, hfz, hnd⟩ := hW
  have hA : DataW.TrodAll enc Try.prog W 0 (fun _ => true) true Try.f5.params.toList args.toList ds p := hA0
  rw [Try.params5] at hA hval
  obtain ⟨v0, vs0, d0, ds0, p0, q0, hargs, rfl, rfl, h0, r0⟩ := trodAll_cons hA
  obtain ⟨v1, vs1, d1, ds1, p1, q1, rfl, rfl, rfl, h1, r1⟩ := trodAll_cons r0
  obtain ⟨rfl, rfl, rfl⟩ := trodAll_nil r1
  obtain rfl : args = #[v0, v1] := by cases args; simp_all
  obtain ⟨rfl, rfl⟩ := trodVars_none hV
  have k0 := h0
  have lt0 : ∀ x ∈ p0, x.block < W.heap.size := by obtain ⟨m, hm⟩ := k0; exact DataW.trod_lt m _ _ _ hm
  obtain ⟨n0, rfl, _, _, wn0⟩ := open_int Try.underlying3 (hval 0 3 v0 rfl rfl) h0
  have k1 := h1
  have lt1 : ∀ x ∈ p1, x.block < W.heap.size := by obtain ⟨m, hm⟩ := k1; exact DataW.trod_lt m _ _ _ hm
  obtain ⟨a1, len1, cap1, rfl⟩ := okWide_slice Try.underlying40 (hval 1 40 v1 rfl rfl)
  obtain ⟨fuel1, hf1⟩ := h1
  have ok1 := opens 3 6 fuel1 _ _ _ _ hf1 (leaves_1)
  clear hA0 hval0 hsz0
  obtain ⟨_, _, e1, l1, _⟩ := allOk_cons ok1
  obtain ⟨A', n', c', xs1, e', hr1, hk1⟩ := leaf_acs3 (by kernel_rfl) actLeaves2 l1
  subst e'
  simp only [Value.cells, List.cons.injEq, Value.slice.injEq] at e1
  obtain ⟨⟨rfl, rfl, rfl⟩, _⟩ := e1
  refine (law n0 a1 len1 cap1 xs1 W hr1 hk1).mono fun e W' ⟨he, bel⟩ => ?_
  subst he
  exact ⟨_, rfl, _, _, _, [], _, [], hW', trodAll_mk1 (shut_bool Try.underlying4 _), (trodAll_cons_mk (Below.trod laidOut (by kernel_rfl) (of_decide_eq_true (by kernel_rfl)) k0 bel lt0) (trodAll_cons_mk (Below.trod laidOut (by kernel_rfl) (of_decide_eq_true (by kernel_rfl)) k1 bel lt1) trodAll_mk0)), rfl, bel.frame _, fun h => by cases h⟩
theorem over : Rows.heapActsRow.holds Try.pinned (OpenSpec.ofChange Rows.heapActsSpec) :=
  OpenClaim.holds_of_wide 5 Try.f5 rfl rfl rfl rfl rfl rfl rfl ⟨rfl, rfl, rfl, rfl, rfl⟩ rfl rfl rfl rfl rfl (by kernel_rfl) Try.func5 (by kernel_rfl)
    (of_decide_eq_true (by kernel_rfl)) (by unfold Func.isWrapper; first | (rw [if_pos (by decide +kernel)]; kernel_rfl) | (rw [if_neg (by decide +kernel)]; exact ⟨rfl, rfl⟩))
    (fun os started H enc _ => lifted os started H enc)
end Go.Proofs.Ytopikpjagjnbhaa.heapActs
namespace Go.Proofs.Ytopikpjagjnbhaa
theorem heapActs_holds : Rows.HeapActsSaid := heapActs.over
end Go.Proofs.Ytopikpjagjnbhaa
