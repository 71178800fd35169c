/- The reference's queue: its rows, and what each act makes of them. -/
import Derived.Test.YtabdipfpfbdghaaGreatZQueK
import Derived.Test.YtabdipfpfbdghaaGreatZNumN
import Derived.Test.YtabdipfpfbdghaaGreatZRegion
import Derived.BigRegion
namespace Go.Proofs.YtabdipfpfbdghaaGreat
open Go.RowKit
abbrev TR : TypeId := 58
theorem rget {W : World} {base g n c : Nat} {l : List RowQ} (h : W.ownsRow base TR 4 (.slice (some ⟨g, 0, none⟩) n c) n (rowsQ l)) {i : Nat} (hi : i < n) :
    l.length = n ∧ (∀ (f : Nat) (v : Value), f < 4 → (rowC (l.getD i row0))[f]? = some v → Box W g (i * 4 + f) v) := by
  have hl : l.length = n := by have := h.1; rw [rowsQ_len] at this; omega
  refine ⟨hl, fun f v hf hv => ⟨?_, h.frozenAt _⟩⟩
  have h1 := h.cellAt (i * 4 + f) (by omega)
  have h2 := rowsQ_get l i f hf (show i < l.length by omega)
  rw [hv] at h2
  rw [h1]
  first | exact h2 | (rw [← List.getElem?_eq_getElem]; exact h2)
theorem rset {W : World} {base g n c : Nat} {l : List RowQ} (h : W.ownsRow base TR 4 (.slice (some ⟨g, 0, none⟩) n c) n (rowsQ l)) {i : Nat} (hi : i < n) (f : Nat) (hf : f < 4) (v : Value) (r : RowQ) (hr : (rowC (l.getD i row0)).set f v = rowC r) :
    (W.setCell ⟨g, i * 4 + f, none⟩ v).ownsRow base TR 4 (.slice (some ⟨g, 0, none⟩) n c) n (rowsQ (l.set i r)) := by
  have hl : l.length = n := by have := h.1; rw [rowsQ_len] at this; omega
  have h2 := (h.stored (i * 4 + f) v).1
  rwa [rowsQ_set l i f hf (by omega) v r hr] at h2
/-- The reference's queue. -/
structure Mq (w : World) (base mb mg n c : Nat) (now : Int) (rows : List RowQ) : Prop where
  nb : Box w mb 0 (.int .i64 now)
  rb : Box w mb 1 (.slice (some ⟨mg, 0, none⟩) n c)
  ro : w.ownsRow base TR 4 (.slice (some ⟨mg, 0, none⟩) n c) n (rowsQ rows)
  ne : mb ≠ mg
  lb : base ≤ mb
variable {w : World} {base mb mg n c : Nat} {now : Int} {rows : List RowQ}
theorem Mq.below {w1 : World} (M : Mq w base mb mg n c now rows) (h : Below w.heap.size w w1) : Mq w1 base mb mg n c now rows :=
  ⟨M.nb.below h, M.rb.below h, own_below M.ro h, M.ne, M.lb⟩
theorem Mq.keep {w1 : World} {S : Nat → Prop} (M : Mq w base mb mg n c now rows) (h : Chg S w w1) (h1 : ¬ S mb) (h2 : ¬ S mg) : Mq w1 base mb mg n c now rows :=
  ⟨M.nb.keep h h1, M.rb.keep h h1, h.own M.ro (fun k e => by cases e; exact h2), M.ne, M.lb⟩
theorem Mq.len (M : Mq w base mb mg n c now rows) : rows.length = n := by
  have := M.ro.1
  rw [rowsQ_len] at this
  omega
theorem Mq.row (M : Mq w base mb mg n c now rows) {i : Nat} (hi : i < n) :
    Box w mg (i * 4) (.int .i64 (rows.getD i row0).st) ∧ Box w mg (i * 4 + 1) (.int .i64 (rows.getD i row0).tk) ∧ Box w mg (i * 4 + 2) (.int .i64 (rows.getD i row0).ps) ∧ Box w mg (i * 4 + 3) (.int .i64 (rows.getD i row0).pk) := by
  have h := (rget M.ro hi).2
  exact ⟨h 0 _ (by decide) rfl, h 1 _ (by decide) rfl, h 2 _ (by decide) rfl, h 3 _ (by decide) rfl⟩
theorem Mq.setNow (M : Mq w base mb mg n c now rows) (v : Int) : Mq (w.setCell ⟨mb, 0, none⟩ (.int .i64 v)) base mb mg n c v rows := by
  have c1 : Chg (fun k => k = mb) w (w.setCell ⟨mb, 0, none⟩ (.int .i64 v)) := (Chg.refl _ _).setCell _ _ _ rfl
  exact ⟨M.nb.set _, M.rb.set_other _ (by decide), c1.own M.ro (fun k e e2 => by cases e; exact M.ne e2.symm), M.ne, M.lb⟩
theorem Mq.setRow (M : Mq w base mb mg n c now rows) {i : Nat} (hi : i < n) (f : Nat) (hf : f < 4) (v : Value) (r : RowQ) (hr : (rowC (rows.getD i row0)).set f v = rowC r) : Mq (w.setCell ⟨mg, i * 4 + f, none⟩ v) base mb mg n c now (rows.set i r) := by
  have c1 : Chg (fun k => k = mg) w (w.setCell ⟨mg, i * 4 + f, none⟩ v) := (Chg.refl _ _).setCell _ _ _ rfl
  exact ⟨M.nb.keep c1 M.ne, M.rb.keep c1 M.ne, rset M.ro hi f hf v r hr, M.ne, M.lb⟩
theorem Mq.setAll (M : Mq w base mb mg n c now rows) {i : Nat} (hi : i < n) (r : RowQ) : Mq ((((w.setCell ⟨mg, i * 4, none⟩ (.int .i64 r.st)).setCell ⟨mg, i * 4 + 1, none⟩ (.int .i64 r.tk)).setCell ⟨mg, i * 4 + 2, none⟩ (.int .i64 r.ps)).setCell ⟨mg, i * 4 + 3, none⟩ (.int .i64 r.pk)) base mb mg n c now (rows.set i r) := by
  have hl := M.len
  have M1 := M.setRow hi 0 (by decide) (.int .i64 r.st) ⟨r.st, (rows.getD i row0).tk, (rows.getD i row0).ps, (rows.getD i row0).pk⟩ rfl
  have M2 := M1.setRow hi 1 (by decide) (.int .i64 r.tk) ⟨r.st, r.tk, (rows.getD i row0).ps, (rows.getD i row0).pk⟩ (by rw [getD_set_same' _ _ _ (by omega)]; rfl)
  have M3 := M2.setRow hi 2 (by decide) (.int .i64 r.ps) ⟨r.st, r.tk, r.ps, (rows.getD i row0).pk⟩ (by rw [List.set_set, getD_set_same' _ _ _ (by omega)]; rfl)
  have M4 := M3.setRow hi 3 (by decide) (.int .i64 r.pk) r (by rw [List.set_set, List.set_set, getD_set_same' _ _ _ (by omega)]; rfl)
  simp only [List.set_set] at M4
  exact M4
/-- What an act leaves. -/
def Ms (mb mg : Nat) : Nat → Prop := fun k => k = mb ∨ k = mg
theorem chg_mg {w1 : World} {i : Nat} {v : Value} (h : Chg (Ms mb mg) w w1) : Chg (Ms mb mg) w (w1.setCell ⟨mg, i, none⟩ v) := h.setCell _ _ _ (.inr rfl)
theorem chg_mb {w1 : World} {i : Nat} {v : Value} (h : Chg (Ms mb mg) w w1) : Chg (Ms mb mg) w (w1.setCell ⟨mb, i, none⟩ v) := h.setCell _ _ _ (.inl rfl)
theorem mrow (M : Mq w base mb mg n c now rows) (x : Nat) (z : Int) (hz : z = (x : Int)) (hx : x < n) :
    Calls Tryz.prog 59 #[.pointer (some ⟨mb, 0, none⟩), .int .i64 z] w fun e w' => e = .returned (.pointer (some ⟨mg, x * 4, none⟩)) ∧ w = w' := by
  subst hz
  have k1 := M.rb.cell
  have hx' : (x : Int) < (n : Int) := by omega
  clear M
  go_enter Tryz.func59, Tryz.ntmps59
  go_wp2
  go_ret
  exact ⟨rfl, rfl⟩
theorem mrowNo (M : Mq w base mb mg n c now rows) (z : Int) (hz : z < 0 ∨ (n : Int) ≤ z) :
    Calls Tryz.prog 59 #[.pointer (some ⟨mb, 0, none⟩), .int .i64 z] w fun e w' => e = .returned (.pointer none) ∧ w = w' := by
  have k1 := M.rb.cell
  clear M
  by_cases h0 : z < 0
  · go_enter Tryz.func59, Tryz.ntmps59
    go_wp2
    go_ret
    exact ⟨rfl, rfl⟩
  · have h1 : ¬ z < (n : Int) := by omega
    have h2 : (n : Int) ≤ z := by omega
    go_enter Tryz.func59, Tryz.ntmps59
    go_wp2
    go_ret
    exact ⟨rfl, rfl⟩
theorem mstate (M : Mq w base mb mg n c now rows) (x : Nat) (z : Int) (hz : z = (x : Int)) (hx : x < n) :
    Calls Tryz.prog 39 #[.pointer (some ⟨mb, 0, none⟩), .int .i64 z] w fun e w' => e = .returned (.int .i64 (rows.getD x row0).st) ∧ w = w' := by
  have HF := Lib.hid (mrow M x z hz hx)
  subst hz
  obtain ⟨r0, _⟩ := M.row hx
  have k0 := r0.cell
  generalize (rows.getD x row0).st = st at k0 ⊢
  clear M r0
  go_enter Tryz.func39, Tryz.ntmps39
  go_wp2_with (go_at_call 59; (with_reducible refine HF.out.mono ?_); rintro e w1 ⟨rfl, rfl⟩)
  go_ret
  exact ⟨rfl, rfl⟩
theorem mstateNo (M : Mq w base mb mg n c now rows) (z : Int) (hz : z < 0 ∨ (n : Int) ≤ z) :
    Calls Tryz.prog 39 #[.pointer (some ⟨mb, 0, none⟩), .int .i64 z] w fun e w' => e = .returned (.int .i64 0) ∧ w = w' := by
  have HF := Lib.hid (mrowNo M z hz)
  clear M hz
  go_enter Tryz.func39, Tryz.ntmps39
  go_wp2_with (go_at_call 59; (with_reducible refine HF.out.mono ?_); rintro e w1 ⟨rfl, rfl⟩)
  go_ret
  exact ⟨rfl, rfl⟩
set_option maxRecDepth 100000 in
set_option maxHeartbeats 4000000 in
/-- Join. -/
theorem mjoin (M : Mq w base mb mg n c now rows) (x : Nat) (z t : Int) (hz : z = (x : Int)) (hx : x < n) (ht : strideV t ≠ 0) (hst : (rows.getD x row0).st = 0) :
    Calls Tryz.prog 25 #[.pointer (some ⟨mb, 0, none⟩), .int .i64 z, .int .i64 t] w fun e w' => e = .returned (.int .i64 0) ∧ Hid (Mq w' base mb mg n c now (rows.set x ⟨1, t, now, 0⟩)) ∧ Hid (Chg (Ms mb mg) w w') := by
  have HF := Lib.hid (mrow M x z hz hx)
  subst hz
  have HS := Lib.hid (wstride t w)
  generalize strideV t = s at HS ht
  obtain ⟨r0, r1, r2, r3⟩ := M.row hx
  rw [hst] at r0
  have c0 := r0.cell
  have c1 := r1.cell
  have c2 := r2.cell
  have c3 := r3.cell
  have f0 := r0.free
  have f1 := r1.free
  have f2 := r2.free
  have f3 := r3.free
  have kn := M.nb.cell
  have HM := Lib.hid (M.setAll hx ⟨1, t, now, 0⟩)
  have HC : Hid (Chg (Ms mb mg) w ((((w.setCell ⟨mg, x * 4, none⟩ (.int .i64 1)).setCell ⟨mg, x * 4 + 1, none⟩ (.int .i64 t)).setCell ⟨mg, x * 4 + 2, none⟩ (.int .i64 now)).setCell ⟨mg, x * 4 + 3, none⟩ (.int .i64 0))) := chg_mg (chg_mg (chg_mg (chg_mg (Chg.refl _ _))))
  clear M r0 r1 r2 r3 hst
  go_enter Tryz.func25, Tryz.ntmps25
  go_wp2_with (first
    | (go_at_call 59; (with_reducible refine HF.out.mono ?_); rintro e w1 ⟨rfl, rfl⟩)
    | (go_at_call 60; (with_reducible refine HS.out.mono ?_); rintro e w1 ⟨rfl, rfl⟩))
  go_ret
  exact ⟨rfl, HM, HC⟩
set_option maxHeartbeats 1000000 in
theorem mjoinArg (M : Mq w base mb mg n c now rows) (x : Nat) (z t : Int) (hz : z = (x : Int)) (hx : x < n) (ht : strideV t = 0) :
    Calls Tryz.prog 25 #[.pointer (some ⟨mb, 0, none⟩), .int .i64 z, .int .i64 t] w fun e w' => e = .returned (.int .i64 2) ∧ w = w' := by
  have HF := Lib.hid (mrow M x z hz hx)
  have HS := Lib.hid (wstride t w)
  rw [ht] at HS
  subst hz
  clear M ht
  go_enter Tryz.func25, Tryz.ntmps25
  go_wp2_with (first
    | (go_at_call 59; (with_reducible refine HF.out.mono ?_); rintro e w1 ⟨rfl, rfl⟩)
    | (go_at_call 60; (with_reducible refine HS.out.mono ?_); rintro e w1 ⟨rfl, rfl⟩))
  go_ret
  exact ⟨rfl, rfl⟩
set_option maxHeartbeats 1000000 in
theorem mjoinSt (M : Mq w base mb mg n c now rows) (x : Nat) (z t : Int) (hz : z = (x : Int)) (hx : x < n) (ht : strideV t ≠ 0) (hst : (rows.getD x row0).st ≠ 0) :
    Calls Tryz.prog 25 #[.pointer (some ⟨mb, 0, none⟩), .int .i64 z, .int .i64 t] w fun e w' => e = .returned (.int .i64 5) ∧ w = w' := by
  have HF := Lib.hid (mrow M x z hz hx)
  have HS := Lib.hid (wstride t w)
  generalize strideV t = s at HS ht
  subst hz
  obtain ⟨r0, _⟩ := M.row hx
  have c0 := r0.cell
  generalize (rows.getD x row0).st = st at c0 hst
  clear M r0
  go_enter Tryz.func25, Tryz.ntmps25
  go_wp2_with (first
    | (go_at_call 59; (with_reducible refine HF.out.mono ?_); rintro e w1 ⟨rfl, rfl⟩)
    | (go_at_call 60; (with_reducible refine HS.out.mono ?_); rintro e w1 ⟨rfl, rfl⟩))
  go_ret
  exact ⟨rfl, rfl⟩
set_option maxHeartbeats 1000000 in
theorem mjoinOut (M : Mq w base mb mg n c now rows) (z t : Int) (hz : z < 0 ∨ (n : Int) ≤ z) :
    Calls Tryz.prog 25 #[.pointer (some ⟨mb, 0, none⟩), .int .i64 z, .int .i64 t] w fun e w' => e = .returned (.int .i64 8) ∧ w = w' := by
  have HF := Lib.hid (mrowNo M z hz)
  clear M hz
  go_enter Tryz.func25, Tryz.ntmps25
  go_wp2_with (go_at_call 59; (with_reducible refine HF.out.mono ?_); rintro e w1 ⟨rfl, rfl⟩)
  go_ret
  exact ⟨rfl, rfl⟩
set_option maxRecDepth 100000 in
set_option maxHeartbeats 4000000 in
/-- Drop. -/
theorem mdrop (M : Mq w base mb mg n c now rows) (x : Nat) (z : Int) (hz : z = (x : Int)) (hx : x < n) (hst : (rows.getD x row0).st ≠ 0) :
    Calls Tryz.prog 37 #[.pointer (some ⟨mb, 0, none⟩), .int .i64 z] w fun e w' => e = .returned (.int .i64 0) ∧ Hid (Mq w' base mb mg n c now (rows.set x row0)) ∧ Hid (Chg (Ms mb mg) w w') := by
  have HF := Lib.hid (mrow M x z hz hx)
  subst hz
  obtain ⟨r0, r1, r2, r3⟩ := M.row hx
  have HM := Lib.hid (M.setAll hx row0)
  have HC : Hid (Chg (Ms mb mg) w ((((w.setCell ⟨mg, x * 4, none⟩ (.int .i64 0)).setCell ⟨mg, x * 4 + 1, none⟩ (.int .i64 0)).setCell ⟨mg, x * 4 + 2, none⟩ (.int .i64 0)).setCell ⟨mg, x * 4 + 3, none⟩ (.int .i64 0))) := chg_mg (chg_mg (chg_mg (chg_mg (Chg.refl _ _))))
  generalize (rows.getD x row0).st = st at r0 hst
  have c0 := r0.cell
  have c1 := r1.cell
  have c2 := r2.cell
  have c3 := r3.cell
  have f0 := r0.free
  have f1 := r1.free
  have f2 := r2.free
  have f3 := r3.free
  clear M r0 r1 r2 r3
  go_enter Tryz.func37, Tryz.ntmps37
  go_wp2_with (go_at_call 59; (with_reducible refine HF.out.mono ?_); rintro e w1 ⟨rfl, rfl⟩)
  go_ret
  exact ⟨rfl, HM, HC⟩
set_option maxHeartbeats 1000000 in
theorem mdropNo (M : Mq w base mb mg n c now rows) (x : Nat) (z : Int) (hz : z = (x : Int)) (hx : x < n) (hst : (rows.getD x row0).st = 0) :
    Calls Tryz.prog 37 #[.pointer (some ⟨mb, 0, none⟩), .int .i64 z] w fun e w' => e = .returned (.int .i64 4) ∧ w = w' := by
  have HF := Lib.hid (mrow M x z hz hx)
  subst hz
  obtain ⟨r0, _⟩ := M.row hx
  rw [hst] at r0
  have c0 := r0.cell
  clear M r0 hst
  go_enter Tryz.func37, Tryz.ntmps37
  go_wp2_with (go_at_call 59; (with_reducible refine HF.out.mono ?_); rintro e w1 ⟨rfl, rfl⟩)
  go_ret
  exact ⟨rfl, rfl⟩
set_option maxHeartbeats 1000000 in
theorem mdropOut (M : Mq w base mb mg n c now rows) (z : Int) (hz : z < 0 ∨ (n : Int) ≤ z) :
    Calls Tryz.prog 37 #[.pointer (some ⟨mb, 0, none⟩), .int .i64 z] w fun e w' => e = .returned (.int .i64 8) ∧ w = w' := by
  have HF := Lib.hid (mrowNo M z hz)
  clear M hz
  go_enter Tryz.func37, Tryz.ntmps37
  go_wp2_with (go_at_call 59; (with_reducible refine HF.out.mono ?_); rintro e w1 ⟨rfl, rfl⟩)
  go_ret
  exact ⟨rfl, rfl⟩
set_option maxRecDepth 100000 in
set_option maxHeartbeats 4000000 in
/-- From one state to another one. -/
theorem mturn (M : Mq w base mb mg n c now rows) (x : Nat) (z : Int) (hz : z = (x : Int)) (hx : x < n) (frm tgt : Int) (hf : (rows.getD x row0).st = frm) :
    Calls Tryz.prog 64 #[.pointer (some ⟨mb, 0, none⟩), .int .i64 z, .int .i64 frm, .int .i64 tgt, .bool false] w fun e w' => e = .returned (.int .i64 0) ∧ Hid (Mq w' base mb mg n c now (rows.set x ⟨tgt, (rows.getD x row0).tk, (rows.getD x row0).ps, (rows.getD x row0).pk⟩)) ∧ Hid (Chg (Ms mb mg) w w') := by
  have HF := Lib.hid (mrow M x z hz hx)
  subst hz
  obtain ⟨r0, _⟩ := M.row hx
  have HM := Lib.hid (M.setRow hx 0 (by decide) (.int .i64 tgt) ⟨tgt, (rows.getD x row0).tk, (rows.getD x row0).ps, (rows.getD x row0).pk⟩ rfl)
  have HC : Hid (Chg (Ms mb mg) w (w.setCell ⟨mg, x * 4, none⟩ (.int .i64 tgt))) := chg_mg (Chg.refl _ _)
  rw [hf] at r0
  have c0 := r0.cell
  have f0 := r0.free
  clear M r0 hf
  go_enter Tryz.func64, Tryz.ntmps64
  go_wp2_with (go_at_call 59; (with_reducible refine HF.out.mono ?_); rintro e w1 ⟨rfl, rfl⟩)
  go_ret
  exact ⟨rfl, HM, HC⟩
set_option maxHeartbeats 1000000 in
theorem mturnNo (M : Mq w base mb mg n c now rows) (x : Nat) (z : Int) (hz : z = (x : Int)) (hx : x < n) (frm tgt : Int) (en : Bool) (hf : (rows.getD x row0).st ≠ frm) :
    Calls Tryz.prog 64 #[.pointer (some ⟨mb, 0, none⟩), .int .i64 z, .int .i64 frm, .int .i64 tgt, .bool en] w fun e w' => e = .returned (.int .i64 5) ∧ w = w' := by
  have HF := Lib.hid (mrow M x z hz hx)
  subst hz
  obtain ⟨r0, _⟩ := M.row hx
  have c0 := r0.cell
  generalize (rows.getD x row0).st = st at c0 hf
  clear M r0
  go_enter Tryz.func64, Tryz.ntmps64
  go_wp2_with (go_at_call 59; (with_reducible refine HF.out.mono ?_); rintro e w1 ⟨rfl, rfl⟩)
  go_ret
  exact ⟨rfl, rfl⟩
set_option maxHeartbeats 1000000 in
theorem mturnOut (M : Mq w base mb mg n c now rows) (z : Int) (hz : z < 0 ∨ (n : Int) ≤ z) (frm tgt : Int) (en : Bool) :
    Calls Tryz.prog 64 #[.pointer (some ⟨mb, 0, none⟩), .int .i64 z, .int .i64 frm, .int .i64 tgt, .bool en] w fun e w' => e = .returned (.int .i64 8) ∧ w = w' := by
  have HF := Lib.hid (mrowNo M z hz)
  clear M hz
  go_enter Tryz.func64, Tryz.ntmps64
  go_wp2_with (go_at_call 59; (with_reducible refine HF.out.mono ?_); rintro e w1 ⟨rfl, rfl⟩)
  go_ret
  exact ⟨rfl, rfl⟩
set_option maxRecDepth 100000 in
set_option maxHeartbeats 4000000 in
/-- One enters. -/
theorem menter (M : Mq w base mb mg n c now rows) (x : Nat) (z : Int) (hz : z = (x : Int)) (hx : x < n) (frm : Int) (r : RowQ) (hr : rows.getD x row0 = r) (hf : r.st = frm) (b1 : I64 now) (b2 : I64 (strideV r.tk)) :
    Calls Tryz.prog 64 #[.pointer (some ⟨mb, 0, none⟩), .int .i64 z, .int .i64 frm, .int .i64 1, .bool true] w fun e w' => e = .returned (.int .i64 0) ∧ Hid (Mq w' base mb mg n c now (rows.set x ⟨1, r.tk, enterV r.ps now (strideV r.tk), r.pk⟩)) ∧ Hid (Chg (Ms mb mg) w w') := by
  have HF := Lib.hid (mrow M x z hz hx)
  subst hz
  have hl := M.len
  obtain ⟨r0, _⟩ := M.row hx
  have M1 := M.setRow hx 0 (by decide) (.int .i64 1) ⟨1, r.tk, r.ps, r.pk⟩ (by rw [hr]; rfl)
  have HC1 : Hid (Chg (Ms mb mg) w (w.setCell ⟨mg, x * 4, none⟩ (.int .i64 1))) := chg_mg (Chg.refl _ _)
  rw [hr, hf] at r0
  have c0 := r0.cell
  have f0 := r0.free
  rw [Nat.add_zero] at M1
  obtain ⟨W1, hW1⟩ : ∃ W, W = w.setCell ⟨mg, x * 4, none⟩ (.int .i64 1) := ⟨_, rfl⟩
  rw [← hW1] at M1 HC1
  have HST := Lib.hid (fun W => wstride r.tk W)
  have HEN := Lib.hid (fun W => wenter r.ps now (strideV r.tk) b1 b2 W)
  have HRW : Hid (∀ W, Mq W base mb mg n c now (rows.set x ⟨1, r.tk, r.ps, r.pk⟩) → Box W mb 0 (.int .i64 now) ∧ Box W mg (x * 4 + 1) (.int .i64 r.tk) ∧ Box W mg (x * 4 + 2) (.int .i64 r.ps)) := by
    intro W h
    have h1 := h.row hx
    rw [getD_set_same' _ _ _ (by omega)] at h1
    exact ⟨h.nb, h1.2.1, h1.2.2.1⟩
  generalize hev : enterV r.ps now (strideV r.tk) = ev at HEN ⊢
  generalize strideV r.tk = s at HST HEN
  have HSET : Hid (∀ W, Mq W base mb mg n c now (rows.set x ⟨1, r.tk, r.ps, r.pk⟩) → Mq (W.setCell ⟨mg, x * 4 + 2, none⟩ (.int .i64 ev)) base mb mg n c now (rows.set x ⟨1, r.tk, ev, r.pk⟩)) := by
    intro W h
    have := h.setRow hx 2 (by decide) (.int .i64 ev) ⟨1, r.tk, ev, r.pk⟩ (by rw [getD_set_same' _ _ _ (by omega)]; rfl)
    rwa [List.set_set] at this
  have HM1 := Lib.hid M1
  clear M r0 hf hr hl b1 b2 hev M1
  go_enter Tryz.func64, Tryz.ntmps64
  go_wp2_with (go_at_call 59; (with_reducible refine HF.out.mono ?_); rintro e w1 ⟨rfl, rfl⟩)
  rw [← hW1]
  obtain ⟨T, hT⟩ : ∃ T : Nat → Fact, ∀ t_, T t_ = ([Fact.eq (.pointer (some ⟨mg, x * 4, none⟩)), Fact.eq (.pointer (some ⟨mg, x * 4, none⟩)), Fact.eq (.pointer (some ⟨mg, x * 4, none⟩)), Fact.eq (.pointer (some ⟨mg, x * 4 + 2, none⟩)), Fact.eq (.int .i64 r.ps), Fact.eq (.pointer (some ⟨mb, 0, none⟩)), Fact.eq (.pointer (some ⟨mb, 0, none⟩)), Fact.eq (.pointer (some ⟨mb, 0, none⟩)), Fact.eq (.int .i64 now), Fact.eq (.pointer (some ⟨mg, x * 4, none⟩)), Fact.eq (.pointer (some ⟨mg, x * 4, none⟩)), Fact.eq (.pointer (some ⟨mg, x * 4 + 1, none⟩)), Fact.eq (.int .i64 r.tk), Fact.eq (.int .i64 s), Fact.eq (.int .i64 ev), Fact.eq (.pointer (some ⟨mg, x * 4, none⟩)), Fact.eq (.pointer (some ⟨mg, x * 4 + 2, none⟩)), Fact.eq (undef)] : List (Fact)).getD t_ Fact.any := ⟨_, fun _ => rfl⟩
  refine region_tabS 17 [(0, 28), (1, 29), (2, 30), (3, 31), (4, 32), (5, 33), (6, 34), (7, 35), (8, 36), (9, 37), (10, 38), (11, 39), (12, 40), (13, 41), (14, 42), (15, 43), (16, 44)] T (by kernel_rfl) (by kernel_rfl) (by kernel_rfl) (by kernel_rfl) (by kernel_rfl) (by kernel_rfl) (by kernel_rfl) ?_ ?_
  · skip
    refine stepsAll_cons (k := 0) ?_ ?_
    · intro fa fx fW hF fB hE K fK
      have ev11 : fa.tmps[11]?.getD undef = .pointer (some ⟨mg, x * 4, none⟩) := hF.eo 11 (by kernel_rfl)
      refine wpOp_val rfl (wanted_none rfl) ?_ (fK (.pointer (some ⟨mg, x * 4, none⟩)) fW (Below.refl _ _) (by rw [hT]; exact rfl))
      clear fK hE hF
      go_simp
    refine stepsAll_cons (k := 1) ?_ ?_
    · intro fa fx fW hF fB hE K fK
      have ev11 : fa.tmps[11]?.getD undef = .pointer (some ⟨mg, x * 4, none⟩) := hF.eo 11 (by kernel_rfl)
      refine wpOp_val rfl (wanted_none rfl) ?_ (fK (.pointer (some ⟨mg, x * 4, none⟩)) fW (Below.refl _ _) (by rw [hT]; exact rfl))
      clear fK hE hF
      go_simp
    refine stepsAll_cons (k := 2) ?_ ?_
    · intro fa fx fW hF fB hE K fK
      have q1 : fx 1 = .pointer (some ⟨mg, x * 4, none⟩) := by have q := hE ⟨1, .data⟩ (by simp) rfl; rw [hT] at q; exact q
      have ev29 : fa.tmps[29]?.getD undef = .pointer (some ⟨mg, x * 4, none⟩) := (hF.ev 1 29 (by kernel_rfl)).trans q1
      refine wpOp_val rfl (wanted_none rfl) ?_ (fK (.pointer (some ⟨mg, x * 4, none⟩)) fW (Below.refl _ _) (by rw [hT]; exact rfl))
      clear fK hE hF
      go_simp
    refine stepsAll_cons (k := 3) ?_ ?_
    · intro fa fx fW hF fB hE K fK
      have q2 : fx 2 = .pointer (some ⟨mg, x * 4, none⟩) := by have q := hE ⟨2, .data⟩ (by simp) rfl; rw [hT] at q; exact q
      have ev30 : fa.tmps[30]?.getD undef = .pointer (some ⟨mg, x * 4, none⟩) := (hF.ev 2 30 (by kernel_rfl)).trans q2
      refine wpOp_val rfl (wanted_none rfl) ?_ (fK (.pointer (some ⟨mg, x * 4 + 2, none⟩)) fW (Below.refl _ _) (by rw [hT]; exact rfl))
      clear fK hE hF
      go_simp
    refine stepsAll_cons (k := 4) ?_ ?_
    · intro fa fx fW hF fB hE K fK
      have q3 : fx 3 = .pointer (some ⟨mg, x * 4 + 2, none⟩) := by have q := hE ⟨3, .data⟩ (by simp) rfl; rw [hT] at q; exact q
      have ev31 : fa.tmps[31]?.getD undef = .pointer (some ⟨mg, x * 4 + 2, none⟩) := (hF.ev 3 31 (by kernel_rfl)).trans q3
      obtain ⟨_, _, z2⟩ := HRW.out _ (HM1.out.below fB)
      have k0 := z2.cell
      refine wpOp_val rfl (wanted_none rfl) ?_ (fK (.int .i64 r.ps) fW (Below.refl _ _) (by rw [hT]; exact rfl))
      clear fK hE hF
      go_simp
    refine stepsAll_cons (k := 5) ?_ ?_
    · intro fa fx fW hF fB hE K fK
      have ev0 : fa.tmps[0]?.getD undef = .pointer (some ⟨mb, 0, none⟩) := hF.eo 0 (by kernel_rfl)
      refine wpOp_val rfl (wanted_none rfl) ?_ (fK (.pointer (some ⟨mb, 0, none⟩)) fW (Below.refl _ _) (by rw [hT]; exact rfl))
      clear fK hE hF
      go_simp
    refine stepsAll_cons (k := 6) ?_ ?_
    · intro fa fx fW hF fB hE K fK
      have q5 : fx 5 = .pointer (some ⟨mb, 0, none⟩) := by have q := hE ⟨5, .data⟩ (by simp) rfl; rw [hT] at q; exact q
      have ev33 : fa.tmps[33]?.getD undef = .pointer (some ⟨mb, 0, none⟩) := (hF.ev 5 33 (by kernel_rfl)).trans q5
      refine wpOp_val rfl (wanted_none rfl) ?_ (fK (.pointer (some ⟨mb, 0, none⟩)) fW (Below.refl _ _) (by rw [hT]; exact rfl))
      clear fK hE hF
      go_simp
    refine stepsAll_cons (k := 7) ?_ ?_
    · intro fa fx fW hF fB hE K fK
      have q6 : fx 6 = .pointer (some ⟨mb, 0, none⟩) := by have q := hE ⟨6, .data⟩ (by simp) rfl; rw [hT] at q; exact q
      have ev34 : fa.tmps[34]?.getD undef = .pointer (some ⟨mb, 0, none⟩) := (hF.ev 6 34 (by kernel_rfl)).trans q6
      refine wpOp_val rfl (wanted_none rfl) ?_ (fK (.pointer (some ⟨mb, 0, none⟩)) fW (Below.refl _ _) (by rw [hT]; exact rfl))
      clear fK hE hF
      go_simp
    refine stepsAll_cons (k := 8) ?_ ?_
    · intro fa fx fW hF fB hE K fK
      have q7 : fx 7 = .pointer (some ⟨mb, 0, none⟩) := by have q := hE ⟨7, .data⟩ (by simp) rfl; rw [hT] at q; exact q
      have ev35 : fa.tmps[35]?.getD undef = .pointer (some ⟨mb, 0, none⟩) := (hF.ev 7 35 (by kernel_rfl)).trans q7
      obtain ⟨z2, _⟩ := HRW.out _ (HM1.out.below fB)
      have k0 := z2.cell
      refine wpOp_val rfl (wanted_none rfl) ?_ (fK (.int .i64 now) fW (Below.refl _ _) (by rw [hT]; exact rfl))
      clear fK hE hF
      go_simp
    refine stepsAll_cons (k := 9) ?_ ?_
    · intro fa fx fW hF fB hE K fK
      have ev11 : fa.tmps[11]?.getD undef = .pointer (some ⟨mg, x * 4, none⟩) := hF.eo 11 (by kernel_rfl)
      refine wpOp_val rfl (wanted_none rfl) ?_ (fK (.pointer (some ⟨mg, x * 4, none⟩)) fW (Below.refl _ _) (by rw [hT]; exact rfl))
      clear fK hE hF
      go_simp
    refine stepsAll_cons (k := 10) ?_ ?_
    · intro fa fx fW hF fB hE K fK
      have q9 : fx 9 = .pointer (some ⟨mg, x * 4, none⟩) := by have q := hE ⟨9, .data⟩ (by simp) rfl; rw [hT] at q; exact q
      have ev37 : fa.tmps[37]?.getD undef = .pointer (some ⟨mg, x * 4, none⟩) := (hF.ev 9 37 (by kernel_rfl)).trans q9
      refine wpOp_val rfl (wanted_none rfl) ?_ (fK (.pointer (some ⟨mg, x * 4, none⟩)) fW (Below.refl _ _) (by rw [hT]; exact rfl))
      clear fK hE hF
      go_simp
    refine stepsAll_cons (k := 11) ?_ ?_
    · intro fa fx fW hF fB hE K fK
      have q10 : fx 10 = .pointer (some ⟨mg, x * 4, none⟩) := by have q := hE ⟨10, .data⟩ (by simp) rfl; rw [hT] at q; exact q
      have ev38 : fa.tmps[38]?.getD undef = .pointer (some ⟨mg, x * 4, none⟩) := (hF.ev 10 38 (by kernel_rfl)).trans q10
      refine wpOp_val rfl (wanted_none rfl) ?_ (fK (.pointer (some ⟨mg, x * 4 + 1, none⟩)) fW (Below.refl _ _) (by rw [hT]; exact rfl))
      clear fK hE hF
      go_simp
    refine stepsAll_cons (k := 12) ?_ ?_
    · intro fa fx fW hF fB hE K fK
      have q11 : fx 11 = .pointer (some ⟨mg, x * 4 + 1, none⟩) := by have q := hE ⟨11, .data⟩ (by simp) rfl; rw [hT] at q; exact q
      have ev39 : fa.tmps[39]?.getD undef = .pointer (some ⟨mg, x * 4 + 1, none⟩) := (hF.ev 11 39 (by kernel_rfl)).trans q11
      obtain ⟨_, z2, _⟩ := HRW.out _ (HM1.out.below fB)
      have k0 := z2.cell
      refine wpOp_val rfl (wanted_none rfl) ?_ (fK (.int .i64 r.tk) fW (Below.refl _ _) (by rw [hT]; exact rfl))
      clear fK hE hF
      go_simp
    refine stepsAll_cons (k := 13) ?_ ?_
    · intro fa fx fW hF fB hE K fK
      have q12 : fx 12 = .int .i64 r.tk := by have q := hE ⟨12, .data⟩ (by simp) rfl; rw [hT] at q; exact q
      have ev40 : fa.tmps[40]?.getD undef = .int .i64 r.tk := (hF.ev 12 40 (by kernel_rfl)).trans q12
      refine wpOp_call rfl (wanted_none rfl) (by go_simp; exact ⟨rfl, rfl⟩) ?_
      refine (HST.out fW).mono ?_
      rintro e' w' ⟨rfl, rfl⟩
      exact ⟨_, rfl, fK (_) (fW) (Below.refl _ _) (by rw [hT]; exact rfl)⟩
    refine stepsAll_cons (k := 14) ?_ ?_
    · intro fa fx fW hF fB hE K fK
      have q4 : fx 4 = .int .i64 r.ps := by have q := hE ⟨4, .data⟩ (by simp) rfl; rw [hT] at q; exact q
      have q8 : fx 8 = .int .i64 now := by have q := hE ⟨8, .data⟩ (by simp) rfl; rw [hT] at q; exact q
      have q13 : fx 13 = .int .i64 s := by have q := hE ⟨13, .data⟩ (by simp) rfl; rw [hT] at q; exact q
      have ev32 : fa.tmps[32]?.getD undef = .int .i64 r.ps := (hF.ev 4 32 (by kernel_rfl)).trans q4
      have ev36 : fa.tmps[36]?.getD undef = .int .i64 now := (hF.ev 8 36 (by kernel_rfl)).trans q8
      have ev41 : fa.tmps[41]?.getD undef = .int .i64 s := (hF.ev 13 41 (by kernel_rfl)).trans q13
      refine wpOp_call rfl (wanted_none rfl) (by go_simp; exact ⟨rfl, rfl⟩) ?_
      refine (HEN.out fW).mono ?_
      rintro e' w' ⟨rfl, hbb⟩
      exact ⟨_, rfl, fK (_) (w') (hbb) (by rw [hT]; exact rfl)⟩
    refine stepsAll_cons (k := 15) ?_ ?_
    · intro fa fx fW hF fB hE K fK
      have q0 : fx 0 = .pointer (some ⟨mg, x * 4, none⟩) := by have q := hE ⟨0, .data⟩ (by simp) rfl; rw [hT] at q; exact q
      have ev28 : fa.tmps[28]?.getD undef = .pointer (some ⟨mg, x * 4, none⟩) := (hF.ev 0 28 (by kernel_rfl)).trans q0
      refine wpOp_val rfl (wanted_none rfl) ?_ (fK (.pointer (some ⟨mg, x * 4, none⟩)) fW (Below.refl _ _) (by rw [hT]; exact rfl))
      clear fK hE hF
      go_simp
    refine stepsAll_cons (k := 16) ?_ ?_
    · intro fa fx fW hF fB hE K fK
      have q15 : fx 15 = .pointer (some ⟨mg, x * 4, none⟩) := by have q := hE ⟨15, .data⟩ (by simp) rfl; rw [hT] at q; exact q
      have ev43 : fa.tmps[43]?.getD undef = .pointer (some ⟨mg, x * 4, none⟩) := (hF.ev 15 43 (by kernel_rfl)).trans q15
      refine wpOp_val rfl (wanted_none rfl) ?_ (fK (.pointer (some ⟨mg, x * 4 + 2, none⟩)) fW (Below.refl _ _) (by rw [hT]; exact rfl))
      clear fK hE hF
      go_simp
    exact stepsAll_nil
  intro fa fx fW hF fB hx
  have q14 : fx 14 = .int .i64 ev := by have q := hx 14 (by decide); rw [hT] at q; exact q
  have ev42 : fa.tmps[42]?.getD undef = .int .i64 ev := (hF.ev 14 42 (by kernel_rfl)).trans q14
  have q16 : fx 16 = .pointer (some ⟨mg, x * 4 + 2, none⟩) := by have q := hx 16 (by decide); rw [hT] at q; exact q
  have ev44 : fa.tmps[44]?.getD undef = .pointer (some ⟨mg, x * 4 + 2, none⟩) := (hF.ev 16 44 (by kernel_rfl)).trans q16
  obtain ⟨_, _, z2⟩ := HRW.out _ (HM1.out.below fB)
  have k0 := z2.cell
  have f0 := z2.free
  refine wpOp_fin rfl (wanted_none rfl) rfl (W' := fW.setCell ⟨mg, x * 4 + 2, none⟩ (.int .i64 ev)) ?_ ?_
  · clear hF hx
    go_simp
  refine tail_end ?_
  rw [hF.eq]
  clear hF hx
  simp only [putAll, Act.put, List.setIfInBounds_toArray, List.set_cons_zero, List.set_cons_succ, ]
  have HFIN := Lib.hid (HSET.out _ (HM1.out.below fB))
  have HC2 : Hid (Chg (Ms mb mg) w (fW.setCell ⟨mg, x * 4 + 2, none⟩ (.int .i64 ev))) := chg_mg (HC1.out.trans (Chg.of_below fB))
  clear HST HEN HRW HSET HM1 HC1
  go_wp2
  go_ret
  exact ⟨rfl, HFIN, HC2⟩
end Go.Proofs.YtabdipfpfbdghaaGreat
