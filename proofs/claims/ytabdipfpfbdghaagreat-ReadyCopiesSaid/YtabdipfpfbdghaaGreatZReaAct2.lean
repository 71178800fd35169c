/- The queue's acts: Drop, Pick, Lower; what it tells of a thread. -/
import Derived.Test.YtabdipfpfbdghaaGreatZReaAct
import Derived.Test.YtabdipfpfbdghaaGreatZHeapLow
import Derived.BigRegion
namespace Go.Proofs.YtabdipfpfbdghaaGreat
open Go.RowKit
variable {TK : Nat → Prop} {w0 : FrQ} {w : World} {b g c hb n : Nat} {q : QV}
set_option maxRecDepth 100000 in
set_option maxHeartbeats 4000000 in
theorem qdropIn (Q : Qx TK w0 w b g c hb n q) (hn : n ≤ 4096) (x : Nat) (z : Int) (hz : z = (x : Int)) (hx : x < n) (hh : (q.rows.getD x row0).st = 1 → hasV q.h x) :
    Calls Tryz.prog 36 #[.pointer (some ⟨b, 0, none⟩), .int .i64 z] w (QP w0 b g c hb n (if (q.rows.getD x row0).st = 0 then (4, q) else (0, dropR q x))) := by
  have HF := Lib.hid (qfind Q x z hz hx)
  subst hz
  obtain ⟨r0, r1, r2, r3⟩ := Q.row hx
  have k0 := r0.cell
  have k1 := r1.cell
  have k2 := r2.cell
  have k3 := r3.cell
  have f0 := r0.free
  have f1 := r1.free
  have f2 := r2.free
  have f3 := r3.free
  have HD : Hid (dropR q x = ⟨q.now, q.rows.set x row0, if (q.rows.getD x row0).st = 1 then outV q.h (placeV q.h x) else q.h⟩) := rfl
  unfold QP
  obtain ⟨st, hst⟩ : ∃ st, (q.rows.getD x row0).st = st := ⟨_, rfl⟩
  rw [hst] at HD hh k0 ⊢
  generalize (q.rows.getD x row0).tk = tk at k1
  generalize (q.rows.getD x row0).ps = ps at k2
  generalize (q.rows.getD x row0).pk = pk at k3
  by_cases h0 : st = 0
  · subst h0
    have HQ := Lib.hid Q.free
    rw [if_pos rfl]
    clear Q r0 r1 r2 r3 hst HD hh
    go_enter Tryz.func36, Tryz.ntmps36
    go_wp2_with (go_at_call 51; (with_reducible refine HF.out.mono ?_); rintro e w1 ⟨rfl, rfl⟩)
    go_ret
    exact ⟨rfl, HQ⟩
  · rw [if_neg h0]
    by_cases h1 : st = 1
    · subst h1
      rw [if_pos rfl] at HD
      have HR := Lib.hid (Q.remove hn x x rfl (hh rfl))
      obtain ⟨b0, b1, b2⟩ := Q.box
      have kb := b2.cell
      have HRW : Hid (∀ W hv, Qx TK w0 W b g c hb n ⟨q.now, q.rows, hv⟩ → (∃ v, W.cell? ⟨g, x * 4, none⟩ = some v) ∧ (∃ v, W.cell? ⟨g, x * 4 + 1, none⟩ = some v) ∧ (∃ v, W.cell? ⟨g, x * 4 + 2, none⟩ = some v) ∧ (∃ v, W.cell? ⟨g, x * 4 + 3, none⟩ = some v) ∧ W.frozen? ⟨g, x * 4, none⟩ = false ∧ W.frozen? ⟨g, x * 4 + 1, none⟩ = false ∧ W.frozen? ⟨g, x * 4 + 2, none⟩ = false ∧ W.frozen? ⟨g, x * 4 + 3, none⟩ = false) := by
        intro W hv h
        obtain ⟨r0, r1, r2, r3⟩ := h.row hx
        exact ⟨⟨_, r0.cell⟩, ⟨_, r1.cell⟩, ⟨_, r2.cell⟩, ⟨_, r3.cell⟩, r0.free, r1.free, r2.free, r3.free⟩
      have HS := Lib.hid (fun W hv (h : Qx TK w0 W b g c hb n ⟨q.now, q.rows, hv⟩) => (h.setAll hx row0).free)
      clear Q r0 r1 r2 r3 hst hh b0 b1 b2
      go_enter Tryz.func36, Tryz.ntmps36
      go_wp2_with (first
        | (go_at_call 51; (with_reducible refine HF.out.mono ?_); rintro e w1 ⟨rfl, rfl⟩)
        | (go_at_call 63; (with_reducible refine HR.out.mono ?_); rintro e w1 ⟨rfl, hQ, _⟩; obtain ⟨⟨_, c0⟩, ⟨_, c1⟩, ⟨_, c2⟩, ⟨_, c3⟩, d0, d1, d2, d3⟩ := HRW.out _ _ hQ))
      go_ret
      refine ⟨rfl, Lib.hid ?_⟩
      show Qx _ _ _ _ _ _ _ _ (dropR q x)
      rw [HD.out]
      exact HS.out _ _ hQ
    · rw [if_neg h1] at HD
      have HS := Lib.hid (Q.setAll hx row0).free
      clear Q r0 r1 r2 r3 hst hh
      go_enter Tryz.func36, Tryz.ntmps36
      go_wp2_with (go_at_call 51; (with_reducible refine HF.out.mono ?_); rintro e w1 ⟨rfl, rfl⟩)
      go_ret
      refine ⟨rfl, Lib.hid ?_⟩
      show Qx _ _ _ _ _ _ _ _ (dropR q x)
      rw [HD.out]
      exact HS.out
theorem qdropOut (Q : Qx TK w0 w b g c hb n q) (z : Int) (hz : z < 0 ∨ (n : Int) ≤ z) :
    Calls Tryz.prog 36 #[.pointer (some ⟨b, 0, none⟩), .int .i64 z] w fun e w' => e = .returned (.int .i64 8) ∧ w = w' := by
  have HF := Lib.hid (qfindNo Q z hz)
  clear Q hz
  go_enter Tryz.func36, Tryz.ntmps36
  go_wp2_with (go_at_call 51; (with_reducible refine HF.out.mono ?_); rintro e w1 ⟨rfl, rfl⟩)
  go_ret
  exact ⟨rfl, rfl⟩
theorem qdropK {k : Nat} (Q : Qx TK w0 w b g c hb n q) (I : QI n q k) (hn : n ≤ 4096) (z : Int) :
    Calls Tryz.prog 36 #[.pointer (some ⟨b, 0, none⟩), .int .i64 z] w (QP w0 b g c hb n (dropS n q z)) := by
  by_cases hi : inZ n z
  · obtain ⟨x, hz, hx, hzx⟩ := inZ_nat hi
    have es : dropS n q z = if (q.rows.getD x row0).st = 0 then (4, q) else (0, dropR q x) := by unfold dropS rowZ; rw [hzx, if_neg (by simpa using hi)]
    rw [es]
    exact qdropIn Q hn x z hz hx (fun h => (I.has x hx).2 h)
  · refine (qdropOut Q z (inZ_out hi)).mono ?_
    rintro e w' ⟨he, rfl⟩
    exact qp_same Q (by unfold dropS; rw [if_pos hi]) he (Below.refl _ _)
theorem qstateOut (Q : Qx TK w0 w b g c hb n q) (z : Int) (hz : z < 0 ∨ (n : Int) ≤ z) :
    Calls Tryz.prog 18 #[.pointer (some ⟨b, 0, none⟩), .int .i64 z] w fun e w' => e = .returned (.int .i64 0) ∧ w = w' := by
  have HF := Lib.hid (qfindNo Q z hz)
  clear Q hz
  go_enter Tryz.func18, Tryz.ntmps18
  go_wp2_with (go_at_call 51; (with_reducible refine HF.out.mono ?_); rintro e w1 ⟨rfl, rfl⟩)
  go_ret
  exact ⟨rfl, rfl⟩
theorem qpicksOut (Q : Qx TK w0 w b g c hb n q) (z : Int) (hz : z < 0 ∨ (n : Int) ≤ z) :
    Calls Tryz.prog 19 #[.pointer (some ⟨b, 0, none⟩), .int .i64 z] w fun e w' => e = .returned (.int .i64 0) ∧ w = w' := by
  have HF := Lib.hid (qfindNo Q z hz)
  clear Q hz
  go_enter Tryz.func19, Tryz.ntmps19
  go_wp2_with (go_at_call 51; (with_reducible refine HF.out.mono ?_); rintro e w1 ⟨rfl, rfl⟩)
  go_ret
  exact ⟨rfl, rfl⟩
theorem qpassOut (Q : Qx TK w0 w b g c hb n q) (z : Int) (hz : z < 0 ∨ (n : Int) ≤ z) :
    Calls Tryz.prog 17 #[.pointer (some ⟨b, 0, none⟩), .int .i64 z] w fun e w' => e = .returned (.tuple #[.int .i64 0, .bool false]) ∧ w = w' := by
  have HF := Lib.hid (qfindNo Q z hz)
  clear Q hz
  go_enter Tryz.func17, Tryz.ntmps17
  go_wp2_with (go_at_call 51; (with_reducible refine HF.out.mono ?_); rintro e w1 ⟨rfl, rfl⟩)
  go_ret2
  exact ⟨rfl, rfl⟩
theorem qpass (Q : Qx TK w0 w b g c hb n q) (x : Nat) (z : Int) (hz : z = (x : Int)) (hx : x < n) :
    Calls Tryz.prog 17 #[.pointer (some ⟨b, 0, none⟩), .int .i64 z] w fun e w' => e = .returned (.tuple #[.int .i64 (if (q.rows.getD x row0).st = 0 then 0 else (q.rows.getD x row0).ps), .bool (decide ((q.rows.getD x row0).st ≠ 0))]) ∧ w = w' := by
  have HF := Lib.hid (qfind Q x z hz hx)
  subst hz
  obtain ⟨r0, _, r2, _⟩ := Q.row hx
  have k0 := r0.cell
  have k2 := r2.cell
  generalize (q.rows.getD x row0).st = st at k0 ⊢
  generalize (q.rows.getD x row0).ps = ps at k2 ⊢
  clear Q r0 r2
  by_cases h : st = 0
  · subst h
    go_enter Tryz.func17, Tryz.ntmps17
    go_wp2_with (go_at_call 51; (with_reducible refine HF.out.mono ?_); rintro e w1 ⟨rfl, rfl⟩)
    go_ret2
    exact ⟨rfl, rfl⟩
  · rw [if_neg h, show decide (st ≠ 0) = true from decide_eq_true h]
    go_enter Tryz.func17, Tryz.ntmps17
    go_wp2_with (go_at_call 51; (with_reducible refine HF.out.mono ?_); rintro e w1 ⟨rfl, rfl⟩)
    go_ret2
    exact ⟨rfl, rfl⟩
theorem qnow (Q : Qx TK w0 w b g c hb n q) : Calls Tryz.prog 13 #[.pointer (some ⟨b, 0, none⟩)] w fun e w' => e = .returned (.int .i64 q.now) ∧ w = w' := by
  obtain ⟨b0, b1, b2⟩ := Q.box
  have HM := Lib.hid (qmade b hb w b2.cell)
  have k0 := b0.cell
  clear Q b0 b1 b2
  go_enter Tryz.func13, Tryz.ntmps13
  go_wp2_with (go_at_call 41; (with_reducible refine HM.out.mono ?_); rintro e w1 ⟨rfl, rfl⟩)
  go_ret
  exact ⟨rfl, rfl⟩
/-- What Pick tells. -/
def pickS (q : QV) : Value × QV := match (q.h.ids[0]? : Option Nat) with
  | none => (.tuple #[.int .i64 0, .bool false], q)
  | some x => (.tuple #[.int .i64 (x : Nat), .bool true], pickR q x)
theorem pickS_some {q : QV} {x : Nat} (h : q.h.ids[0]? = some x) : pickS q = (.tuple #[.int .i64 x, .bool true], pickR q x) := by unfold pickS; rw [h]
theorem pickS_none {q : QV} (h : q.h.ids[0]? = none) : pickS q = (.tuple #[.int .i64 0, .bool false], q) := by unfold pickS; rw [h]
theorem qpickK {k : Nat} (Q : Qx TK w0 w b g c hb n q) (I : QI n q k) (hk : k ≤ 1000) (h0 : 0 < n) (hn : n ≤ 4096) :
    Calls Tryz.prog 22 #[.pointer (some ⟨b, 0, none⟩)] w fun e w' => e = .returned (pickS q).1 ∧ Hid (Qx NoT w0 w' b g c hb n (pickS q).2) := by
  have hnow := I.now
  have hk3 : (k : Int) * 1099511627776 ≤ 1000 * 1099511627776 := Int.mul_le_mul_of_nonneg_right (by omega) (by omega)
  cases hx : q.h.ids[0]? with
  | none =>
    have hl : q.h.ids.length = 0 := by
      have := List.getElem?_eq_none_iff.1 hx
      omega
    rw [pickS_none hx]
    refine (qpickNo Q h0 hl (by omega)).mono ?_
    rintro e w' ⟨he, rfl⟩
    exact ⟨he, Lib.hid Q.free⟩
  | some x =>
    rw [pickS_some hx]
    obtain ⟨p1, p2, p3, p4, _⟩ := pickI I hx
    obtain ⟨a1, a2, a3⟩ := I.key x p1 p2
    have ht := I.tk x p1 (by omega)
    have hsr := strideQ_in ht
    have hp := I.pk x p1
    refine (qpick Q hn x hx (by omega) ⟨by omega, by omega⟩ p3 ht ⟨hp.1, by omega⟩).mono ?_
    rintro e w' ⟨he, h1⟩
    exact ⟨he, Lib.hid h1.free⟩
end Go.Proofs.YtabdipfpfbdghaaGreat
