/- The law EventBack holds: for any row of events, any bytes and any number the call returns true, and the arguments read as they did. No condition. -/
import Derived.Test.YtdnddoiemaifjaaEventBack
import Derived.Test.YtdnddoiemaifjaaEvOpen
namespace Go.Proofs.Ytdnddoiemaifjaa.eventBack
theorem leaves_0 : leaves Try.prog 6 22 = some [.slice 30] := evLeaves
theorem u8_of_wf {n : Int} (h : (Lit.int .u8 n).wf = true) : 0 ≤ n ∧ n < 256 := by
  have hmin : IntKind.u8.min = 0 := rfl
  have hmax : IntKind.u8.max = 255 := rfl
  simp only [Lit.wf, Bool.and_eq_true, decide_eq_true_eq] at h
  omega
theorem u64_of_wf {n : Int} (h : (Lit.int .u64 n).wf = true) : 0 ≤ n ∧ n < 18446744073709551616 := by
  have hmin : IntKind.u64.min = 0 := rfl
  have hmax : IntKind.u64.max = 18446744073709551615 := rfl
  simp only [Lit.wf, Bool.and_eq_true, decide_eq_true_eq] at h
  omega
theorem regs_ok {l : List Ev} (h : ∀ r ∈ l, EvOk r) : ∀ e ∈ l, ∀ x ∈ evRegs e, I64 x := by
  intro e he x hx
  obtain ⟨_, _, _, _, _, _, h0, h1, h2, h3, h4, h5, h6, h7, _⟩ := h e he
  simp only [evRegs, List.mem_cons, List.not_mem_nil, or_false] at hx
  rcases hx with rfl | rfl | rfl | rfl | rfl | rfl | rfl | rfl <;> assumption
theorem law (A : Option Addr) (n c : Nat) (l : List Ev) (A2 : Option Addr) (m d : Nat) (bs : List Int) (q : Int) (w : World) (hr : Rds w 15 A n c (evs l)) (hx : ∀ r ∈ l, EvOk r) (hr2 : Rds w 1 A2 m d (nums .u8 bs)) (hu : U8s bs) (hq : 0 ≤ q ∧ q < 18446744073709551616) :
    Calls Try.prog 6 #[.slice A n c, .slice A2 m d, .int .u64 q] w fun e w' => e = .returned (.bool true) ∧ Go.RowKit.Below w.heap.size w w' := by
  by_cases h : 40 < n ∨ 1000 < m
  · exact back_lives A n c A2 m d q w h
  · obtain ⟨p, rfl⟩ := Int.eq_ofNat_of_zero_le hq.1
    cases hm : readM bs with
    | some l0 => exact back_some A n c l A2 m d bs p w hr (regs_ok hx) hr2 hu (by omega) (by omega) (by omega) l0 hm
    | none => exact back_none A n c l A2 m d bs p w hr (regs_ok hx) hr2 hu (by omega) (by omega) (by omega) hm
end Go.Proofs.Ytdnddoiemaifjaa.eventBack
namespace Go.Proofs.Ytdnddoiemaifjaa.eventBack
open Go.ChangeShapes Go.WideShapes Go.ChangeAt Go.RowKit
open Go.ChangeMaps (open_string shut_string)
set_option linter.unusedVariables false
theorem own : ownKnob Try.prog.godebug = none := by kernel_rfl
theorem laidOut : laidOutB Try.prog = true := by kernel_rfl
set_option maxRecDepth 100000 in
set_option maxHeartbeats 1000000 in
theorem lifted (os : Os) (started : os.Started) (H : Type) (enc : TypeId × Value → H) :
    ReturnsInHanded {} Try.checked os 6 .any (Rows.eventBackSpec.pre6 enc Try.prog Try.f6 Rows.eventBackRow.domain false) (Rows.eventBackSpec.post enc Try.prog Try.f6 false true false false) := by
  refine returnsInHanded_of_change_sized (C := Try.checked) own started (by kernel_rfl) Try.func6
    (ChangeSpec.witness6 (enc := enc) (C := Try.checked) false ⟨#[], #[.slice none 0 0, .slice none 0 0, .int .u64 0], []⟩ 8 (by kernel_rfl) (by kernel_rfl) (by kernel_rfl) (by kernel_rfl)) ?_
  intro W base args ds gs before hval0 hW hcnd hsz0 _
  have hval : ∀ (j : Nat) t v, Try.f6.params[j]? = some t → args[j]? = some v → Value.okWide Try.prog W .any base t v := hval0
  have hW' := hW
  obtain ⟨p, q, hA0, hV, rfl, hfz, hnd⟩ := hW
  have hA : DataW.TrodAll enc Try.prog W 0 (fun _ => true) true Try.f6.params.toList args.toList ds p := hA0
  rw [Try.params6] at hA hval
  obtain ⟨v0, vs0, d0, ds0, p0, q0, hargs, rfl, rfl, h0, r0⟩ := trodAll_cons hA
  obtain ⟨v1, vs1, d1, ds1, p1, q1, rfl, rfl, rfl, h1, r1⟩ := trodAll_cons r0
  obtain ⟨v2, vs2, d2, ds2, p2, q2, rfl, rfl, rfl, h2, r2⟩ := trodAll_cons r1
  obtain ⟨rfl, rfl, rfl⟩ := trodAll_nil r2
  obtain rfl : args = #[v0, v1, v2] := by cases args; simp_all
  obtain ⟨rfl, rfl⟩ := trodVars_none hV
  have k0 := h0
  have lt0 : ∀ x ∈ p0, x.block < W.heap.size := by obtain ⟨m, hm⟩ := k0; exact DataW.trod_lt m _ _ _ hm
  obtain ⟨a0, len0, cap0, rfl⟩ := okWide_slice Try.underlying22 (hval 0 22 v0 rfl rfl)
  obtain ⟨fuel0, hf0⟩ := h0
  have ok0 := opens 3 6 fuel0 _ _ _ _ hf0 (leaves_0)
  have k1 := h1
  have lt1 : ∀ x ∈ p1, x.block < W.heap.size := by obtain ⟨m, hm⟩ := k1; exact DataW.trod_lt m _ _ _ hm
  obtain ⟨a1, len1, cap1, rfl⟩ := okWide_slice Try.underlying33 (hval 1 33 v1 rfl rfl)
  obtain ⟨fuel1, hf1⟩ := h1
  have ok1 := opens 3 6 fuel1 _ _ _ _ hf1 (by kernel_rfl : leaves Try.prog 6 33 = some [.slice 5])
  obtain ⟨_, _, e1, l1, _⟩ := allOk_cons ok1
  obtain ⟨A', n', c', xs1, e', hr1, hx1⟩ := leaf_nums (k := .u8) (by kernel_rfl) (by kernel_rfl) l1
  subst e'
  simp only [Value.cells, List.cons.injEq, Value.slice.injEq] at e1
  obtain ⟨⟨rfl, rfl, rfl⟩, _⟩ := e1
  have k2 := h2
  have lt2 : ∀ x ∈ p2, x.block < W.heap.size := by obtain ⟨m, hm⟩ := k2; exact DataW.trod_lt m _ _ _ hm
  obtain ⟨n2, rfl, _, _, wn2⟩ := open_int Try.underlying46 (hval 2 46 v2 rfl rfl) h2
  clear hA0 hval0 hsz0
  obtain ⟨_, _, e0, l0, _⟩ := allOk_cons ok0
  obtain ⟨A', n', c', xs0, e', hr0, hx0⟩ := leaf_evs (by kernel_rfl) evLeaves2 l0
  subst e'
  simp only [Value.cells, List.cons.injEq, Value.slice.injEq] at e0
  obtain ⟨⟨rfl, rfl, rfl⟩, _⟩ := e0
  refine (law a0 len0 cap0 xs0 a1 len1 cap1 xs1 n2 W hr0 hx0 hr1 (fun x hx => u8_of_wf (hx1 x hx)) (u64_of_wf wn2)).mono fun e W' ⟨he, bel⟩ => ?_
  subst he
  exact ⟨_, rfl, _, _, _, [], _, [], hW', trodAll_mk1 (shut_bool Try.underlying4 _), (trodAll_cons_mk (Below.trod laidOut (by kernel_rfl) (of_decide_eq_true (by kernel_rfl)) k0 bel lt0) (trodAll_cons_mk (Below.trod laidOut (by kernel_rfl) (of_decide_eq_true (by kernel_rfl)) k1 bel lt1) (trodAll_cons_mk (Below.trod laidOut (by kernel_rfl) (of_decide_eq_true (by kernel_rfl)) k2 bel lt2) trodAll_mk0))), rfl, bel.frame _, fun h => by cases h⟩
theorem over : Rows.eventBackRow.holds Try.pinned (OpenSpec.ofChange Rows.eventBackSpec) :=
  OpenClaim.holds_of_wide 6 Try.f6 rfl rfl rfl rfl rfl rfl rfl ⟨rfl, rfl, rfl, rfl, rfl⟩ rfl rfl rfl rfl rfl (by kernel_rfl) Try.func6 (by kernel_rfl)
    (of_decide_eq_true (by kernel_rfl)) (by unfold Func.isWrapper; first | (rw [if_pos (by decide +kernel)]; kernel_rfl) | (rw [if_neg (by decide +kernel)]; exact ⟨rfl, rfl⟩))
    (fun os started H enc _ => lifted os started H enc)
end Go.Proofs.Ytdnddoiemaifjaa.eventBack
namespace Go.Proofs.Ytdnddoiemaifjaa
theorem eventBack_holds : Rows.EventBackSaid := eventBack.over
end Go.Proofs.Ytdnddoiemaifjaa
