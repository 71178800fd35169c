/- Package ready: turn, enter, Back, Wake, Block, of a queue that was made. -/
import Derived.Test.YtabdipfpfbdghaaReady
namespace Go.Proofs.Ytabdipfpfbdghaa
open Go.RowKit
set_option maxRecDepth 100000 in
set_option maxHeartbeats 4000000 in
theorem qturn {TK : Nat → Prop} {w0 w : World} {b g c hb n : Nat} {q : QV} (Q : Qx TK w0 w b g c hb n q) (x : Nat) (z : Int) (hz : z = (x : Int)) (hx : x < n) (frm tgt : Int) (hf : (q.rows.getD x row0).st = frm) (gf : Nat) (lb : Array Value) (eg : ∀ args w, (callFunc gf args).run Try.prog w = .ok (.enter gf args) w) (R : World → Prop)
    (HD : Calls Try.prog gf (#[.pointer (some ⟨g, x * 4, none⟩)] ++ lb) (w.setCell ⟨g, x * 4, none⟩ (.int .i64 tgt)) fun e w' => e = .returned (.tuple #[]) ∧ R w') :
    Calls Try.prog 29 #[.pointer (some ⟨b, 0, none⟩), .int .i64 z, .int .i64 frm, .int .i64 tgt, .func (.func gf) #[] lb] w fun e w' => e = .returned (.int .i64 0) ∧ R w' := by
  have HF := Lib.hid (qfind Q x z hz hx)
  subst hz
  obtain ⟨r0, _⟩ := Q.row hx
  rw [hf] at r0
  have k0 := r0.cell
  have k1 := r0.free
  have HX := Lib.hid HD
  clear HD Q hf r0
  go_enter Try.func29, Try.ntmps29
  go_wp2_with (first
    | (go_at_call 25; (with_reducible refine HF.out.mono ?_); rintro e w1 ⟨rfl, rfl⟩)
    | (go_at_fn gf; (with_reducible refine HX.out.mono ?_); rintro e w' ⟨rfl, hR⟩))
  go_ret
  exact ⟨rfl, hR⟩
set_option maxHeartbeats 4000000 in
theorem qturnNo {TK : Nat → Prop} {w0 w : World} {b g c hb n : Nat} {q : QV} (Q : Qx TK w0 w b g c hb n q) (x : Nat) (z : Int) (hz : z = (x : Int)) (hx : x < n) (frm tgt : Int) (hf : (q.rows.getD x row0).st ≠ frm) (fv : Value) :
    Calls Try.prog 29 #[.pointer (some ⟨b, 0, none⟩), .int .i64 z, .int .i64 frm, .int .i64 tgt, fv] w fun e w' => e = .returned (.int .i64 5) ∧ w = w' := by
  have HF := Lib.hid (qfind Q x z hz hx)
  subst hz
  obtain ⟨r0, _⟩ := Q.row hx
  have k0 := r0.cell
  generalize (q.rows.getD x row0).st = st at hf k0
  clear Q r0
  go_enter Try.func29, Try.ntmps29
  go_wp2_with (go_at_call 25; (with_reducible refine HF.out.mono ?_); rintro e w1 ⟨rfl, rfl⟩)
  go_ret
  exact ⟨rfl, rfl⟩
set_option maxHeartbeats 4000000 in
theorem qturnOut {TK : Nat → Prop} {w0 w : World} {b g c hb n : Nat} {q : QV} (Q : Qx TK w0 w b g c hb n q) (z : Int) (hz : z < 0 ∨ (n : Int) ≤ z) (frm tgt : Int) (fv : Value) :
    Calls Try.prog 29 #[.pointer (some ⟨b, 0, none⟩), .int .i64 z, .int .i64 frm, .int .i64 tgt, fv] w fun e w' => e = .returned (.int .i64 8) ∧ w = w' := by
  have HF := Lib.hid (qfindNo Q z hz)
  clear Q
  go_enter Try.func29, Try.ntmps29
  go_wp2_with (go_at_call 25; (with_reducible refine HF.out.mono ?_); rintro e w1 ⟨rfl, rfl⟩)
  go_ret
  exact ⟨rfl, rfl⟩
theorem Qx.mark {TK : Nat → Prop} {w0 w : World} {b g c hb n : Nat} {q : QV} (Q : Qx TK w0 w b g c hb n q) (S : Nat → Prop) (w1 : World) (hb1 : Below w.heap.size w w1) (hS : ∀ k, S k → w.heap.size ≤ k ∧ k < w1.heap.size) : Qx S w0 w1 b g c hb n q := by
  obtain ⟨⟨gk, gp, ck, cp, iv, Q1, QT⟩, Q2⟩ := Q
  refine ⟨⟨gk, gp, ck, cp, iv, Q1.below hb1, fun k hk => ?_⟩, below_then Q2 Q2.size hb1⟩
  obtain ⟨h1, h2⟩ := hS k hk
  have e1 := Q1.nb.lt
  have e2 := (Q1.ro.lt g rfl).2
  have e3 := Q1.hp.ib.lt
  have e4 := (Q1.hp.kw.ko.lt gk rfl).2
  have e5 := (Q1.hp.po.lt gp rfl).2
  refine ⟨h2, by omega, by omega, ?_⟩
  rintro (e | e | e | e)
  · omega
  · omega
  · omega
  · have := (Q1.hp.io.lt k e).2
    omega
def NoT : Nat → Prop := fun _ => False
theorem Qx.free {TK : Nat → Prop} {w0 w : World} {b g c hb n : Nat} {q : QV} (Q : Qx TK w0 w b g c hb n q) : Qx NoT w0 w b g c hb n q := by
  obtain ⟨⟨gk, gp, ck, cp, iv, Q1, QT⟩, Q2⟩ := Q
  exact ⟨⟨gk, gp, ck, cp, iv, Q1, fun k hk => hk.elim⟩, Q2⟩
def enterR (q : QV) (x : Nat) : QV := ⟨q.now, q.rows.set x ⟨1, (q.rows.getD x row0).tk, enterV (q.rows.getD x row0).ps q.now (strideV (q.rows.getD x row0).tk), (q.rows.getD x row0).pk⟩, putV q.h x (enterV (q.rows.getD x row0).ps q.now (strideV (q.rows.getD x row0).tk))⟩
set_option maxRecDepth 100000 in
set_option maxHeartbeats 4000000 in
/-- enter, of one that may. -/
theorem qenter {TK : Nat → Prop} {w0 w : World} {b g c hb n : Nat} {q : QV} (Q : Qx TK w0 w b g c hb n q) (hn : n ≤ 4096) (x : Nat) (z : Int) (hz : z = (x : Int)) (hx : x < n) (frm : Int) (hf : (q.rows.getD x row0).st = frm) (hh : ¬ hasV q.h x) (b1 : I64 q.now) (b2 : rightT (q.rows.getD x row0).tk = true) :
    Calls Try.prog 28 #[.pointer (some ⟨b, 0, none⟩), .int .i64 z, .int .i64 frm] w fun e w' => e = .returned (.int .i64 0) ∧ Qx NoT w0 w' b g c hb n (enterR q x) := by
  subst hz
  have hl := Q.rowsN
  have hgl : g < w.heap.size := by
    obtain ⟨⟨gk, gp, ck, cp, iv, Q1, QT⟩, Q2⟩ := Q
    exact (Q1.ro.lt g rfl).2
  obtain ⟨W1, hW1⟩ : ∃ W1, W1 = (w.alloc (.cells #[.pointer (some ⟨b, 0, none⟩)] (25 : Nat))).alloc (.cells #[.int .i64 x] (3 : Nat)) := ⟨_, rfl⟩
  have hbl : Below w.heap.size w W1 := by rw [hW1]; exact below_al (below_al (Below.refl _ _) _) _
  have c1 : W1.cell? ⟨w.heap.size, 0, none⟩ = some (.pointer (some ⟨b, 0, none⟩)) := by rw [hW1]; go_simp
  have c2 : W1.cell? ⟨w.heap.size + 1, 0, none⟩ = some (.int .i64 x) := by rw [hW1]; go_simp
  have hsz : W1.heap.size = w.heap.size + 2 := by rw [hW1]; simp
  have Q1 := Q.mark (fun k => k = w.heap.size ∨ k = w.heap.size + 1) W1 hbl (fun k e => by omega)
  obtain ⟨r, hr⟩ : ∃ r, q.rows.getD x row0 = r := ⟨_, rfl⟩
  have Q2 := Q1.setRow hx 0 (by decide) (.int .i64 1) ⟨1, r.tk, r.ps, r.pk⟩ (by rw [hr]; rfl)
  have cc : Chg (fun k => k = g) W1 (W1.setCell ⟨g, x * 4 + 0, none⟩ (.int .i64 1)) := (Chg.refl _ _).setCell _ _ _ rfl
  have d1 := cc.cell c1 (show ¬ (w.heap.size = g) by omega)
  have d2 := cc.cell c2 (show ¬ (w.heap.size + 1 = g) by omega)
  have eg : ∀ args w, (callFunc 52 args).run Try.prog w = .ok (.enter 52 args) w := Go.Proofs.enters_of Try.func52 (by kernel_rfl) rfl
  have HD := qenter1 Q2 hn x hx w.heap.size (w.heap.size + 1) d1 d2 ⟨1, r.tk, r.ps, r.pk⟩ (getD_set_same' _ _ _ (by omega)) hh b1 (by rw [hr] at b2; exact b2) (by omega) (.inl rfl) (.inr rfl)
  have HT := qturn Q1 x x rfl hx frm 1 hf 52 #[.pointer (some ⟨w.heap.size, 0, none⟩), .pointer (some ⟨w.heap.size + 1, 0, none⟩)] eg (fun w' => Qx NoT w0 w' b g c hb n (enterR q x)) (HD.mono (fun e w' ⟨h1, h2⟩ => ⟨h1, by
    have h3 := h2.free
    simp only [List.set_set] at h3
    unfold enterR
    rw [hr]
    exact h3⟩))
  have HT := Lib.hid HT
  rw [hW1] at HT c1 c2
  clear HD d1 d2 cc Q2 Q1 hbl hsz hW1 Q hr hf hh b1 b2 hl hgl
  go_enter Try.func28, Try.ntmps28
  go_wp2_with (go_at_call 29; (with_reducible refine HT.out.mono ?_); rintro e w2 ⟨rfl, hQ⟩)
  go_ret
  exact ⟨rfl, hQ⟩
set_option maxHeartbeats 1000000 in
theorem qback {TK : Nat → Prop} {w0 w : World} {b g c hb n : Nat} {q : QV} (Q : Qx TK w0 w b g c hb n q) (hn : n ≤ 4096) (x : Nat) (z : Int) (hz : z = (x : Int)) (hx : x < n) (hf : (q.rows.getD x row0).st = 2) (hh : ¬ hasV q.h x) (b1 : I64 q.now) (b2 : rightT (q.rows.getD x row0).tk = true) :
    Calls Try.prog 8 #[.pointer (some ⟨b, 0, none⟩), .int .i64 z] w fun e w' => e = .returned (.int .i64 0) ∧ Qx NoT w0 w' b g c hb n (enterR q x) := by
  subst hz
  have HE := Lib.hid (qenter Q hn x x rfl hx 2 hf hh b1 b2)
  clear Q hf hh b1 b2
  go_enter Try.func8, Try.ntmps8
  go_wp2_with (go_at_call 28; (with_reducible refine HE.out.mono ?_); rintro e w2 ⟨rfl, hQ⟩)
  go_ret
  exact ⟨rfl, hQ⟩
end Go.Proofs.Ytabdipfpfbdghaa
