/- Package ready: turn, enter, Back, Wake, Block, of a queue that was made. -/
import Derived.Test.YtabdipfpfbdghaaGreatZReaK
namespace Go.Proofs.YtabdipfpfbdghaaGreat
open Go.RowKit
set_option maxRecDepth 100000 in
set_option maxHeartbeats 4000000 in
theorem qturn {TK : Nat → Prop} {w0 : FrQ} {w : World} {b g c hb n : Nat} {q : QV} (Q : Qx TK w0 w b g c hb n q) (x : Nat) (z : Int) (hz : z = (x : Int)) (hx : x < n) (frm tgt : Int) (hf : (q.rows.getD x row0).st = frm) (gf : Nat) (lb : Array Value) (eg : ∀ args w, (callFunc gf args).run Tryz.prog w = .ok (.enter gf args) w) (R : World → Prop)
    (HD : Calls Tryz.prog gf (#[.pointer (some ⟨g, x * 4, none⟩)] ++ lb) (w.setCell ⟨g, x * 4, none⟩ (.int .i64 tgt)) fun e w' => e = .returned (.tuple #[]) ∧ R w') :
    Calls Tryz.prog 61 #[.pointer (some ⟨b, 0, none⟩), .int .i64 z, .int .i64 frm, .int .i64 tgt, .func (.func gf) #[] lb] w fun e w' => e = .returned (.int .i64 0) ∧ R w' := by
  have HF := Lib.hid (qfind Q x z hz hx)
  subst hz
  obtain ⟨r0, _⟩ := Q.row hx
  rw [hf] at r0
  have k0 := r0.cell
  have k1 := r0.free
  have HX := Lib.hid HD
  clear HD Q hf r0
  go_enter Tryz.func61, Tryz.ntmps61
  go_wp2_with (first
    | (go_at_call 51; (with_reducible refine HF.out.mono ?_); rintro e w1 ⟨rfl, rfl⟩)
    | (go_at_fn gf; (with_reducible refine HX.out.mono ?_); rintro e w' ⟨rfl, hR⟩))
  go_ret
  exact ⟨rfl, hR⟩
set_option maxHeartbeats 4000000 in
theorem qturnNo {TK : Nat → Prop} {w0 : FrQ} {w : World} {b g c hb n : Nat} {q : QV} (Q : Qx TK w0 w b g c hb n q) (x : Nat) (z : Int) (hz : z = (x : Int)) (hx : x < n) (frm tgt : Int) (hf : (q.rows.getD x row0).st ≠ frm) (fv : Value) :
    Calls Tryz.prog 61 #[.pointer (some ⟨b, 0, none⟩), .int .i64 z, .int .i64 frm, .int .i64 tgt, fv] w fun e w' => e = .returned (.int .i64 5) ∧ w = w' := by
  have HF := Lib.hid (qfind Q x z hz hx)
  subst hz
  obtain ⟨r0, _⟩ := Q.row hx
  have k0 := r0.cell
  generalize (q.rows.getD x row0).st = st at hf k0
  clear Q r0
  go_enter Tryz.func61, Tryz.ntmps61
  go_wp2_with (go_at_call 51; (with_reducible refine HF.out.mono ?_); rintro e w1 ⟨rfl, rfl⟩)
  go_ret
  exact ⟨rfl, rfl⟩
set_option maxHeartbeats 4000000 in
theorem qturnOut {TK : Nat → Prop} {w0 : FrQ} {w : World} {b g c hb n : Nat} {q : QV} (Q : Qx TK w0 w b g c hb n q) (z : Int) (hz : z < 0 ∨ (n : Int) ≤ z) (frm tgt : Int) (fv : Value) :
    Calls Tryz.prog 61 #[.pointer (some ⟨b, 0, none⟩), .int .i64 z, .int .i64 frm, .int .i64 tgt, fv] w fun e w' => e = .returned (.int .i64 8) ∧ w = w' := by
  have HF := Lib.hid (qfindNo Q z hz)
  clear Q
  go_enter Tryz.func61, Tryz.ntmps61
  go_wp2_with (go_at_call 51; (with_reducible refine HF.out.mono ?_); rintro e w1 ⟨rfl, rfl⟩)
  go_ret
  exact ⟨rfl, rfl⟩
theorem Qx.mark {TK : Nat → Prop} {w0 : FrQ} {w : World} {b g c hb n : Nat} {q : QV} (Q : Qx TK w0 w b g c hb n q) (S : Nat → Prop) (w1 : World) (hb1 : Below w.heap.size w w1) (hS : ∀ k, S k → w.heap.size ≤ k ∧ k < w1.heap.size) : Qx S w0 w1 b g c hb n q := by
  obtain ⟨⟨gk, gp, ck, cp, iv, Q1, QT⟩, Q2⟩ := Q
  refine ⟨⟨gk, gp, ck, cp, iv, Q1.below hb1, fun k hk => ?_⟩, Q2.below hb1⟩
  rcases hk with hk | hk
  rotate_left
  · exact ⟨Nat.lt_of_lt_of_le (QT k (.inr hk)).1 hb1.size, (QT k (.inr hk)).2⟩
  obtain ⟨h1, h2⟩ := hS k hk
  have e1 := Q1.nb.lt
  have e2 := (Q1.ro.lt g rfl).2
  have e3 := Q1.hp.ib.lt
  have e4 := (Q1.hp.kw.ko.lt gk rfl).2
  have e5 := (Q1.hp.po.lt gp rfl).2
  refine ⟨h2, by omega, by omega, ?_⟩
  rintro (e | e | e | e)
  · omega
  · omega
  · omega
  · have := (Q1.hp.io.lt k e).2
    omega
def NoT : Nat → Prop := fun _ => False
theorem Qx.free {TK : Nat → Prop} {w0 : FrQ} {w : World} {b g c hb n : Nat} {q : QV} (Q : Qx TK w0 w b g c hb n q) : Qx NoT w0 w b g c hb n q := by
  obtain ⟨⟨gk, gp, ck, cp, iv, Q1, QT⟩, Q2⟩ := Q
  exact ⟨⟨gk, gp, ck, cp, iv, Q1, fun k hk => QT k (.inr (hk.resolve_left id))⟩, Q2⟩
def enterR (q : QV) (x : Nat) : QV := ⟨q.now, q.rows.set x ⟨1, (q.rows.getD x row0).tk, enterV (q.rows.getD x row0).ps q.now (strideV (q.rows.getD x row0).tk), (q.rows.getD x row0).pk⟩, putV q.h x (enterV (q.rows.getD x row0).ps q.now (strideV (q.rows.getD x row0).tk))⟩
set_option maxRecDepth 100000 in
set_option maxHeartbeats 4000000 in
/-- enter, of one that may. -/
theorem qenter {TK : Nat → Prop} {w0 : FrQ} {w : World} {b g c hb n : Nat} {q : QV} (Q : Qx TK w0 w b g c hb n q) (hn : n ≤ 4096) (x : Nat) (z : Int) (hz : z = (x : Int)) (hx : x < n) (frm : Int) (hf : (q.rows.getD x row0).st = frm) (hh : ¬ hasV q.h x) (b1 : I64 q.now) (b2 : rightT (q.rows.getD x row0).tk = true) :
    Calls Tryz.prog 57 #[.pointer (some ⟨b, 0, none⟩), .int .i64 z, .int .i64 frm] w fun e w' => e = .returned (.int .i64 0) ∧ Qx NoT w0 w' b g c hb n (enterR q x) := by
  subst hz
  have hl := Q.rowsN
  have hgl : g < w.heap.size := by
    obtain ⟨⟨gk, gp, ck, cp, iv, Q1, QT⟩, Q2⟩ := Q
    exact (Q1.ro.lt g rfl).2
  obtain ⟨W1, hW1⟩ : ∃ W1, W1 = (w.alloc (.cells #[.pointer (some ⟨b, 0, none⟩)] (24 : Nat))).alloc (.cells #[.int .i64 x] (3 : Nat)) := ⟨_, rfl⟩
  have hbl : Below w.heap.size w W1 := by rw [hW1]; exact below_al (below_al (Below.refl _ _) _) _
  have c1 : W1.cell? ⟨w.heap.size, 0, none⟩ = some (.pointer (some ⟨b, 0, none⟩)) := by rw [hW1]; go_simp
  have c2 : W1.cell? ⟨w.heap.size + 1, 0, none⟩ = some (.int .i64 x) := by rw [hW1]; go_simp
  have hsz : W1.heap.size = w.heap.size + 2 := by rw [hW1]; simp
  have Q1 := Q.mark (fun k => k = w.heap.size ∨ k = w.heap.size + 1) W1 hbl (fun k e => by omega)
  obtain ⟨r, hr⟩ : ∃ r, q.rows.getD x row0 = r := ⟨_, rfl⟩
  have Q2 := Q1.setRow hx 0 (by decide) (.int .i64 1) ⟨1, r.tk, r.ps, r.pk⟩ (by rw [hr]; rfl)
  have cc : Chg (fun k => k = g) W1 (W1.setCell ⟨g, x * 4 + 0, none⟩ (.int .i64 1)) := (Chg.refl _ _).setCell _ _ _ rfl
  have d1 := cc.cell c1 (show ¬ (w.heap.size = g) by omega)
  have d2 := cc.cell c2 (show ¬ (w.heap.size + 1 = g) by omega)
  have eg : ∀ args w, (callFunc 79 args).run Tryz.prog w = .ok (.enter 79 args) w := Go.Proofs.enters_of Tryz.func79 (by kernel_rfl) rfl
  have HD := qenter1 Q2 hn x hx w.heap.size (w.heap.size + 1) d1 d2 ⟨1, r.tk, r.ps, r.pk⟩ (getD_set_same' _ _ _ (by omega)) hh b1 (by rw [hr] at b2; exact b2) (by omega) (.inl rfl) (.inr rfl)
  have HT := qturn Q1 x x rfl hx frm 1 hf 79 #[.pointer (some ⟨w.heap.size, 0, none⟩), .pointer (some ⟨w.heap.size + 1, 0, none⟩)] eg (fun w' => Qx NoT w0 w' b g c hb n (enterR q x)) (HD.mono (fun e w' ⟨h1, h2⟩ => ⟨h1, by
    have h3 := h2.free
    simp only [List.set_set] at h3
    unfold enterR
    rw [hr]
    exact h3⟩))
  have HT := Lib.hid HT
  rw [hW1] at HT c1 c2
  clear HD d1 d2 cc Q2 Q1 hbl hsz hW1 Q hr hf hh b1 b2 hl hgl
  go_enter Tryz.func57, Tryz.ntmps57
  go_wp2_with (go_at_call 61; (with_reducible refine HT.out.mono ?_); rintro e w2 ⟨rfl, hQ⟩)
  go_ret
  exact ⟨rfl, hQ⟩
set_option maxHeartbeats 1000000 in
theorem qback {TK : Nat → Prop} {w0 : FrQ} {w : World} {b g c hb n : Nat} {q : QV} (Q : Qx TK w0 w b g c hb n q) (hn : n ≤ 4096) (x : Nat) (z : Int) (hz : z = (x : Int)) (hx : x < n) (hf : (q.rows.getD x row0).st = 2) (hh : ¬ hasV q.h x) (b1 : I64 q.now) (b2 : rightT (q.rows.getD x row0).tk = true) :
    Calls Tryz.prog 23 #[.pointer (some ⟨b, 0, none⟩), .int .i64 z] w fun e w' => e = .returned (.int .i64 0) ∧ Qx NoT w0 w' b g c hb n (enterR q x) := by
  subst hz
  have HE := Lib.hid (qenter Q hn x x rfl hx 2 hf hh b1 b2)
  clear Q hf hh b1 b2
  go_enter Tryz.func23, Tryz.ntmps23
  go_wp2_with (go_at_call 57; (with_reducible refine HE.out.mono ?_); rintro e w2 ⟨rfl, hQ⟩)
  go_ret
  exact ⟨rfl, hQ⟩
end Go.Proofs.YtabdipfpfbdghaaGreat

/- Package ready: Block, Wake, Drop, State, Picks, and Join of whoever, of a queue that was made. -/
namespace Go.Proofs.YtabdipfpfbdghaaGreat
open Go.RowKit
theorem qstay (v : Value) (w : World) : Calls Tryz.prog 65 #[v] w fun e w' => e = .returned (.tuple #[]) ∧ w = w' := by
  go_enter Tryz.func65, Tryz.ntmps65
  go_wp2
  exact bodyPost_end (v := .tuple #[]) (by simp [results, Tryz.results65, go_sem]) rfl ⟨rfl, rfl⟩
def markR (q : QV) (x : Nat) (s : Int) : QV := ⟨q.now, q.rows.set x ⟨s, (q.rows.getD x row0).tk, (q.rows.getD x row0).ps, (q.rows.getD x row0).pk⟩, q.h⟩
set_option maxHeartbeats 1000000 in
theorem qblock {TK : Nat → Prop} {w0 : FrQ} {w : World} {b g c hb n : Nat} {q : QV} (Q : Qx TK w0 w b g c hb n q) (x : Nat) (z : Int) (hz : z = (x : Int)) (hx : x < n) (hf : (q.rows.getD x row0).st = 2) :
    Calls Tryz.prog 30 #[.pointer (some ⟨b, 0, none⟩), .int .i64 z] w fun e w' => e = .returned (.int .i64 0) ∧ Qx NoT w0 w' b g c hb n (markR q x 3) := by
  subst hz
  have eg : ∀ args w, (callFunc 65 args).run Tryz.prog w = .ok (.enter 65 args) w := Go.Proofs.enters_of Tryz.func65 (by kernel_rfl) rfl
  have Q1 := (Q.setRow hx 0 (by decide) (.int .i64 3) ⟨3, (q.rows.getD x row0).tk, (q.rows.getD x row0).ps, (q.rows.getD x row0).pk⟩ rfl).free
  have HT := Lib.hid (qturn Q x x rfl hx 2 3 hf 65 #[] eg (fun w' => Qx NoT w0 w' b g c hb n (markR q x 3)) ((qstay _ _).mono (fun e w' ⟨h1, h2⟩ => ⟨h1, h2 ▸ Q1⟩)))
  clear Q hf Q1
  go_enter Tryz.func30, Tryz.ntmps30
  go_wp2_with (go_at_call 61; (with_reducible refine HT.out.mono ?_); rintro e w2 ⟨rfl, hQ⟩)
  go_ret
  exact ⟨rfl, hQ⟩
set_option maxRecDepth 100000 in
set_option maxHeartbeats 4000000 in
/-- enter, of one whose state is another one. -/
theorem qenterNo {TK : Nat → Prop} {w0 : FrQ} {w : World} {b g c hb n : Nat} {q : QV} (Q : Qx TK w0 w b g c hb n q) (x : Nat) (z : Int) (hz : z = (x : Int)) (hx : x < n) (frm : Int) (hf : (q.rows.getD x row0).st ≠ frm) :
    Calls Tryz.prog 57 #[.pointer (some ⟨b, 0, none⟩), .int .i64 z, .int .i64 frm] w fun e w' => e = .returned (.int .i64 5) ∧ Qx NoT w0 w' b g c hb n q := by
  subst hz
  have hal : Below w.heap.size w ((w.alloc (.cells #[.pointer (some ⟨b, 0, none⟩)] (24 : Nat))).alloc (.cells #[.int .i64 x] (3 : Nat))) := below_al (below_al (Below.refl _ _) _) _
  have HT := Lib.hid (fun fv => qturnNo (Q.below hal) x x rfl hx frm 1 hf fv)
  have HQ := Lib.hid (Q.below hal).free
  clear Q hf hal
  go_enter Tryz.func57, Tryz.ntmps57
  go_wp2_with (go_at_call 61; (with_reducible refine (HT.out _).mono ?_); rintro e w2 ⟨rfl, rfl⟩)
  go_ret
  exact ⟨rfl, HQ.out⟩
set_option maxHeartbeats 1000000 in
theorem qwake {TK : Nat → Prop} {w0 : FrQ} {w : World} {b g c hb n : Nat} {q : QV} (Q : Qx TK w0 w b g c hb n q) (hn : n ≤ 4096) (x : Nat) (z : Int) (hz : z = (x : Int)) (hx : x < n) (hh : (q.rows.getD x row0).st = 3 → ¬ hasV q.h x) (b1 : I64 q.now) (b2 : (q.rows.getD x row0).st = 3 → rightT (q.rows.getD x row0).tk = true) :
    Calls Tryz.prog 32 #[.pointer (some ⟨b, 0, none⟩), .int .i64 z] w fun e w' => (∃ k, e = .returned (.int .i64 k)) ∧ ∃ q', Qx NoT w0 w' b g c hb n q' ∧ (q' = q ∨ q' = enterR q x ∧ (q.rows.getD x row0).st = 3) := by
  subst hz
  have HE : Hid (Calls Tryz.prog 57 #[.pointer (some ⟨b, 0, none⟩), .int .i64 x, .int .i64 3] w fun e w' => (∃ k, e = .returned (.int .i64 k)) ∧ ∃ q', Qx NoT w0 w' b g c hb n q' ∧ (q' = q ∨ q' = enterR q x ∧ (q.rows.getD x row0).st = 3)) := by
    by_cases h : (q.rows.getD x row0).st = 3
    · refine (qenter Q hn x x rfl hx 3 h (hh h) b1 (b2 h)).mono ?_
      rintro e w' ⟨rfl, h1⟩
      exact ⟨⟨_, rfl⟩, _, h1, .inr ⟨rfl, h⟩⟩
    · refine (qenterNo Q x x rfl hx 3 h).mono ?_
      rintro e w' ⟨rfl, h1⟩
      exact ⟨⟨_, rfl⟩, _, h1, .inl rfl⟩
  clear Q hh b1 b2
  go_enter Tryz.func32, Tryz.ntmps32
  go_wp2_with (go_at_call 57; (with_reducible refine HE.out.mono ?_); rintro e w2 ⟨⟨k, rfl⟩, q', hQ⟩)
  go_ret
  exact ⟨⟨_, rfl⟩, q', hQ⟩
set_option maxHeartbeats 1000000 in
theorem qstate {TK : Nat → Prop} {w0 : FrQ} {w : World} {b g c hb n : Nat} {q : QV} (Q : Qx TK w0 w b g c hb n q) (x : Nat) (z : Int) (hz : z = (x : Int)) (hx : x < n) :
    Calls Tryz.prog 18 #[.pointer (some ⟨b, 0, none⟩), .int .i64 z] w fun e w' => e = .returned (.int .i64 (q.rows.getD x row0).st) ∧ w = w' := by
  have HF := Lib.hid (qfind Q x z hz hx)
  subst hz
  obtain ⟨r0, _⟩ := Q.row hx
  have k0 := r0.cell
  generalize (q.rows.getD x row0).st = st at k0 ⊢
  clear Q r0
  go_enter Tryz.func18, Tryz.ntmps18
  go_wp2_with (go_at_call 51; (with_reducible refine HF.out.mono ?_); rintro e w1 ⟨rfl, rfl⟩)
  go_ret
  exact ⟨rfl, rfl⟩
set_option maxHeartbeats 1000000 in
theorem qpicks1 (st tk ps pk : Int) (w : World) : Calls Tryz.prog 52 #[.agg #[.int .i64 st, .int .i64 tk, .int .i64 ps, .int .i64 pk]] w fun e w' => e = .returned (.int .i64 pk) ∧ Below w.heap.size w w' := by
  have hal : Below w.heap.size w (w.alloc (.cells #[.int .i64 st, .int .i64 tk, .int .i64 ps, .int .i64 pk] (61 : Nat))) := below_al (Below.refl _ _) _
  have HA := Lib.hid hal
  clear hal
  go_enter Tryz.func52, Tryz.ntmps52
  go_wp2
  go_ret
  exact ⟨rfl, HA.out⟩
set_option maxHeartbeats 1000000 in
theorem qpicks {TK : Nat → Prop} {w0 : FrQ} {w : World} {b g c hb n : Nat} {q : QV} (Q : Qx TK w0 w b g c hb n q) (x : Nat) (z : Int) (hz : z = (x : Int)) (hx : x < n) :
    Calls Tryz.prog 19 #[.pointer (some ⟨b, 0, none⟩), .int .i64 z] w fun e w' => e = .returned (.int .i64 (q.rows.getD x row0).pk) ∧ Below w.heap.size w w' := by
  have HF := Lib.hid (qfind Q x z hz hx)
  subst hz
  obtain ⟨r0, r1, r2, r3⟩ := Q.row hx
  have k0 := r0.cell
  have k1 := r1.cell
  have k2 := r2.cell
  have k3 := r3.cell
  have HP := Lib.hid (qpicks1 (q.rows.getD x row0).st (q.rows.getD x row0).tk (q.rows.getD x row0).ps (q.rows.getD x row0).pk w)
  generalize q.rows.getD x row0 = r at k0 k1 k2 k3 HP ⊢
  clear Q r0 r1 r2 r3
  go_enter Tryz.func19, Tryz.ntmps19
  go_wp2_with (first
    | (go_at_call 51; (with_reducible refine HF.out.mono ?_); rintro e w1 ⟨rfl, rfl⟩)
    | (go_at_call 52; (with_reducible refine HP.out.mono ?_); rintro e w1 ⟨rfl, hb1⟩))
  go_ret
  exact ⟨rfl, hb1⟩
def dropR (q : QV) (x : Nat) : QV := ⟨q.now, q.rows.set x row0, if (q.rows.getD x row0).st = 1 then outV q.h (placeV q.h x) else q.h⟩
set_option maxRecDepth 100000 in
set_option maxHeartbeats 4000000 in
theorem qdrop {TK : Nat → Prop} {w0 : FrQ} {w : World} {b g c hb n : Nat} {q : QV} (Q : Qx TK w0 w b g c hb n q) (hn : n ≤ 4096) (x : Nat) (z : Int) (hz : z = (x : Int)) (hx : x < n) (hh : (q.rows.getD x row0).st = 1 → hasV q.h x) :
    Calls Tryz.prog 36 #[.pointer (some ⟨b, 0, none⟩), .int .i64 z] w fun e w' => (∃ k, e = .returned (.int .i64 k)) ∧ ∃ q', Qx NoT w0 w' b g c hb n q' ∧ (q' = q ∨ q' = dropR q x ∧ (q.rows.getD x row0).st ≠ 0) := by
  have HF := Lib.hid (qfind Q x z hz hx)
  subst hz
  obtain ⟨r0, r1, r2, r3⟩ := Q.row hx
  have k0 := r0.cell
  have k1 := r1.cell
  have k2 := r2.cell
  have k3 := r3.cell
  have f0 := r0.free
  have f1 := r1.free
  have f2 := r2.free
  have f3 := r3.free
  have HD : Hid (dropR q x = ⟨q.now, q.rows.set x row0, if (q.rows.getD x row0).st = 1 then outV q.h (placeV q.h x) else q.h⟩) := rfl
  obtain ⟨st, hst⟩ : ∃ st, (q.rows.getD x row0).st = st := ⟨_, rfl⟩
  rw [hst] at HD hh k0 ⊢
  generalize (q.rows.getD x row0).tk = tk at k1
  generalize (q.rows.getD x row0).ps = ps at k2
  generalize (q.rows.getD x row0).pk = pk at k3
  by_cases h0 : st = 0
  · subst h0
    have HQ := Lib.hid Q.free
    clear Q r0 r1 r2 r3 hst HD hh
    go_enter Tryz.func36, Tryz.ntmps36
    go_wp2_with (go_at_call 51; (with_reducible refine HF.out.mono ?_); rintro e w1 ⟨rfl, rfl⟩)
    go_ret
    exact ⟨⟨_, rfl⟩, q, HQ.out, .inl rfl⟩
  · by_cases h1 : st = 1
    · subst h1
      rw [if_pos rfl] at HD
      have HR := Lib.hid (Q.remove hn x x rfl (hh rfl))
      obtain ⟨b0, b1, b2⟩ := Q.box
      have kb := b2.cell
      have HRW : Hid (∀ W hv, Qx TK w0 W b g c hb n ⟨q.now, q.rows, hv⟩ → (∃ v, W.cell? ⟨g, x * 4, none⟩ = some v) ∧ (∃ v, W.cell? ⟨g, x * 4 + 1, none⟩ = some v) ∧ (∃ v, W.cell? ⟨g, x * 4 + 2, none⟩ = some v) ∧ (∃ v, W.cell? ⟨g, x * 4 + 3, none⟩ = some v) ∧ W.frozen? ⟨g, x * 4, none⟩ = false ∧ W.frozen? ⟨g, x * 4 + 1, none⟩ = false ∧ W.frozen? ⟨g, x * 4 + 2, none⟩ = false ∧ W.frozen? ⟨g, x * 4 + 3, none⟩ = false) := by
        intro W hv h
        obtain ⟨r0, r1, r2, r3⟩ := h.row hx
        exact ⟨⟨_, r0.cell⟩, ⟨_, r1.cell⟩, ⟨_, r2.cell⟩, ⟨_, r3.cell⟩, r0.free, r1.free, r2.free, r3.free⟩
      have HS := Lib.hid (fun W hv (h : Qx TK w0 W b g c hb n ⟨q.now, q.rows, hv⟩) => (h.setAll hx row0).free)
      clear Q r0 r1 r2 r3 hst hh b0 b1 b2
      go_enter Tryz.func36, Tryz.ntmps36
      go_wp2_with (first
        | (go_at_call 51; (with_reducible refine HF.out.mono ?_); rintro e w1 ⟨rfl, rfl⟩)
        | (go_at_call 63; (with_reducible refine HR.out.mono ?_); rintro e w1 ⟨rfl, hQ, _⟩; obtain ⟨⟨_, c0⟩, ⟨_, c1⟩, ⟨_, c2⟩, ⟨_, c3⟩, d0, d1, d2, d3⟩ := HRW.out _ _ hQ))
      go_ret
      refine ⟨⟨_, rfl⟩, dropR q x, ?_, .inr ⟨rfl, by decide⟩⟩
      rw [HD.out]
      exact HS.out _ _ hQ
    · rw [if_neg h1] at HD
      have HS := Lib.hid (Q.setAll hx row0).free
      clear Q r0 r1 r2 r3 hst hh
      go_enter Tryz.func36, Tryz.ntmps36
      go_wp2_with (go_at_call 51; (with_reducible refine HF.out.mono ?_); rintro e w1 ⟨rfl, rfl⟩)
      go_ret
      refine ⟨⟨_, rfl⟩, dropR q x, ?_, .inr ⟨rfl, h0⟩⟩
      rw [HD.out]
      exact HS.out
set_option maxRecDepth 100000 in
set_option maxHeartbeats 4000000 in
theorem qjoinNo {TK : Nat → Prop} {w0 : FrQ} {w : World} {b g c hb n : Nat} {q : QV} (Q : Qx TK w0 w b g c hb n q) (x : Nat) (z t : Int) (hz : z = (x : Int)) (hx : x < n) (hno : rightT t = false ∨ (q.rows.getD x row0).st ≠ 0) :
    Calls Tryz.prog 21 #[.pointer (some ⟨b, 0, none⟩), .int .i64 z, .int .i64 t] w fun e w' => (∃ k, e = .returned (.int .i64 k)) ∧ Qx NoT w0 w' b g c hb n q := by
  have HF := Lib.hid (qfind Q x z hz hx)
  subst hz
  have HS := Lib.hid (sstride t w)
  have HQ := Lib.hid Q
  by_cases h1 : strideV t = 0
  · rw [h1] at HS
    clear Q hno h1
    go_enter Tryz.func21, Tryz.ntmps21
    go_wp2_with (first
      | (go_at_call 51; (with_reducible refine HF.out.mono ?_); rintro e w1 ⟨rfl, rfl⟩)
      | (go_at_call 53; (with_reducible refine HS.out.mono ?_); rintro e w1 ⟨rfl, hb1⟩))
    go_ret
    exact ⟨⟨_, rfl⟩, (HQ.out.below hb1).free⟩
  · have hst : (q.rows.getD x row0).st ≠ 0 := by
      rcases hno with h | h
      · exact absurd (by unfold strideV; rw [h]; rfl) h1
      · exact h
    obtain ⟨r0, _⟩ := Q.row hx
    have k0 := r0.cell
    have HK := Lib.hid k0
    generalize strideV t = s at HS h1
    generalize (q.rows.getD x row0).st = st at hst HK
    clear Q hno r0 k0
    go_enter Tryz.func21, Tryz.ntmps21
    go_wp2_with (first
      | (go_at_call 51; (with_reducible refine HF.out.mono ?_); rintro e w1 ⟨rfl, rfl⟩)
      | (go_at_call 53; (with_reducible refine HS.out.mono ?_); rintro e w1 ⟨rfl, hb1⟩; have k1 := cell_below hb1 HK.out))
    go_ret
    exact ⟨⟨_, rfl⟩, (HQ.out.below hb1).free⟩
theorem qjoinAny {TK : Nat → Prop} {w0 : FrQ} {w : World} {b g c hb n : Nat} {q : QV} (Q : Qx TK w0 w b g c hb n q) (hn : n ≤ 4096) (x : Nat) (z t : Int) (hz : z = (x : Int)) (hx : x < n) (hh : (q.rows.getD x row0).st = 0 → ¬ hasV q.h x) :
    Calls Tryz.prog 21 #[.pointer (some ⟨b, 0, none⟩), .int .i64 z, .int .i64 t] w fun e w' => (∃ k, e = .returned (.int .i64 k)) ∧ ∃ q', Qx NoT w0 w' b g c hb n q' ∧ (q' = q ∨ q' = joinR q x t ∧ (q.rows.getD x row0).st = 0 ∧ rightT t = true) := by
  by_cases h : rightT t = true ∧ (q.rows.getD x row0).st = 0
  · refine (qjoin Q hn x z t hz hx h.1 h.2 (hh h.2)).mono ?_
    rintro e w' ⟨rfl, h1⟩
    exact ⟨⟨_, rfl⟩, _, h1.free, .inr ⟨rfl, h.2, h.1⟩⟩
  · refine (qjoinNo Q x z t hz hx ?_).mono ?_
    · by_cases h1 : rightT t = true
      · exact .inr (fun h2 => h ⟨h1, h2⟩)
      · exact .inl (by simpa using h1)
    · rintro e w' ⟨h1, h2⟩
      exact ⟨h1, _, h2, .inl rfl⟩
end Go.Proofs.YtabdipfpfbdghaaGreat

/- Package ready: New; the document's examples. -/
namespace Go.Proofs.YtabdipfpfbdghaaGreat
open Go.RowKit
theorem info_row : (Tryz.prog.info? 61).map (fun i => (i.zero, i.size, i.bytes)) = some (some (.agg #[.int .i64 0, .int .i64 0, .int .i64 0, .int .i64 0]), 4, 32) := by kernel_rfl
theorem rows0 : ∀ n, rowsQ (List.replicate n row0) = List.replicate (n * 4) (Value.int .i64 0)
  | 0 => rfl
  | n + 1 => by
    have h := rows0 n
    unfold rowsQ at h ⊢
    rw [List.replicate_succ, List.map_cons, List.flatten_cons, h, show (n + 1) * 4 = 4 + n * 4 by omega, ← List.replicate_append_replicate]
    rfl
theorem made_rows (n : Nat) : (madeCells (Value.agg #[.int .i64 0, .int .i64 0, .int .i64 0, .int .i64 0]).cells (n * 4)).toList = rowsQ (List.replicate n row0) := by
  rw [rows0]
  apply List.ext_getElem?
  intro j
  rw [List.getElem?_replicate]
  show (madeCells #[Value.int .i64 0, .int .i64 0, .int .i64 0, .int .i64 0] (n * 4)).toList[j]? = _
  by_cases hj : j < n * 4
  · rw [if_pos hj]
    have h4 : j % 4 = 0 ∨ j % 4 = 1 ∨ j % 4 = 2 ∨ j % 4 = 3 := by omega
    rcases h4 with h | h | h | h <;> simp [madeCells, hj, h]
  · rw [if_neg hj]
    simp [madeCells, hj]
def newR (n : Nat) : QV := ⟨0, List.replicate n row0, newV n⟩
set_option maxHeartbeats 1000000 in
theorem kp_of {w w1 : World} (h : Below w.heap.size w w1) : Kp ⟨w, w.heap.size, NoT⟩ w1 := ⟨h.os, h.tape, h.output, h.size, Nat.le_refl _, fun k hk _ => h.block k hk⟩
theorem kp_to {w w1 : World} (h : Kp ⟨w, w.heap.size, NoT⟩ w1) : Below w.heap.size w w1 := ⟨h.os, h.tape, h.output, h.sz, fun k hk => h.block k hk (.inl hk)⟩
theorem qnewNo (z : Int) (w : World) (hz : z < 1 ∨ 4096 < z) : Calls Tryz.prog 7 #[.int .i64 z] w fun e w' => e = .returned (.pointer none) ∧ w = w' := by
  have HN := Lib.hid (hnewNo z w hz)
  clear hz
  go_enter Tryz.func7, Tryz.ntmps7
  go_wp2_with (go_at_call 24; (with_reducible refine HN.out.mono ?_); rintro e w1 ⟨rfl, rfl⟩)
  go_ret
  exact ⟨rfl, rfl⟩
set_option maxRecDepth 100000 in
set_option maxHeartbeats 4000000 in
theorem qnew (n : Nat) (z : Int) (hz : z = (n : Int)) (w : World) (h1 : 1 ≤ n) (h2 : n ≤ 4096) : Calls Tryz.prog 7 #[.int .i64 z] w fun e w' => ∃ b g hb, e = .returned (.pointer (some ⟨b, 0, none⟩)) ∧ Qx NoT ⟨w, w.heap.size, NoT⟩ w' b g n hb n (newR n) := by
  have HN := Lib.hid (hnew n z hz w h1 h2)
  subst hz
  go_enter Tryz.func7, Tryz.ntmps7
  go_wp2_with (first
    | (go_at_call 24; (with_reducible refine HN.out.mono ?_); rintro e w1 ⟨⟨v, rfl, hv⟩, hb1⟩; obtain ⟨hb, gk, gp, cp, rfl, l1, l2, l3, hH⟩ := hv)
    | (at_make; refine mkn (w0 := w1) w.heap.size (by rfl) _ _ 50 61 _ 4 32 (by rfl) Tryz.underlying50 info_row _ _ _ _ n (by rfl) (by rfl) rfl rfl (by omega) (by unfold maxLen; omega) (Below.refl _ _) hb1.size ?_; intro w2 ho2 hb2 hg2))
  rw [made_rows] at ho2
  have hB2 : Below w1.heap.size w1 w2 := (Below.refl _ _).grown hg2 (Nat.le_refl _) (fun k hk => by cases hk)
  obtain ⟨W3, hW3⟩ : ∃ W3, W3 = w2.alloc (.cells #[.int .i64 0, .slice (some ⟨w1.heap.size, 0, none⟩) n n, .pointer (some ⟨hb, 0, none⟩)] (52 : Nat)) := ⟨_, rfl⟩
  have hB3 : Below w2.heap.size w2 W3 := by rw [hW3]; exact below_al (Below.refl _ _) _
  have x0 : Box W3 w2.heap.size 0 (.int .i64 0) := by rw [hW3]; constructor <;> go_simp
  have x1 : Box W3 w2.heap.size 1 (.slice (some ⟨w1.heap.size, 0, none⟩) n n) := by rw [hW3]; constructor <;> go_simp
  have x2 : Box W3 w2.heap.size 2 (.pointer (some ⟨hb, 0, none⟩)) := by rw [hW3]; constructor <;> go_simp
  rw [← hW3]
  have s1 := hH.ib.lt
  have s2 := (hH.kw.ko.lt gk rfl).2
  have s3 := (hH.po.lt gp rfl).2
  have s4 := (ho2.lt w1.heap.size rfl).2
  have s5 := hb1.size
  have s6 := hB2.size
  refine bodyPost_ret (results_tmp rfl _ _ _) rfl ⟨w2.heap.size, w1.heap.size, hb, rfl, ⟨gk, gp, n, cp, _, ⟨x0, x1, x2, own_below ho2 hB3, (hH.below hB2).below hB3, (new_ok n).1, by omega, (fun k e => by cases e), (by show w.heap.size ≤ _; omega), ⟨l1, l2, l3⟩⟩, fun k hk => (hk.elim id id).elim⟩, kp_of (below_then (below_then hb1 hb1.size hB2) (by omega) hB3)⟩
def qv1 : QV := joinR (newR 4) 0 1
def qv2 : QV := joinR qv1 1 1
def qv3 : QV := pickR qv2 0
def qv4 : QV := pickR qv3 1
def qv5 : QV := enterR qv4 0
def qv6 : QV := enterR qv5 1
set_option maxRecDepth 100000 in
set_option maxHeartbeats 4000000 in
/-- The document's examples. -/
theorem lives18 (w : World) : Calls Tryz.prog 6 #[] w fun e w' => e = .returned (.bool true) ∧ Below w.heap.size w w' := by
  have HN := Lib.hid (qnew 4 4 rfl w (by decide) (by decide))
  have H1 := Lib.hid (fun b g hb W (H : Qx NoT ⟨w, w.heap.size, NoT⟩ W b g 4 hb 4 (newR 4)) => qjoin H (by decide) 0 0 1 rfl (by decide) (by decide) (by decide) (by rw [has_mem]; decide))
  have H2 := Lib.hid (fun b g hb W (H : Qx NoT ⟨w, w.heap.size, NoT⟩ W b g 4 hb 4 qv1) => qjoin H (by decide) 1 1 1 rfl (by decide) (by decide) (by decide) (by rw [has_mem]; decide))
  have H3 := Lib.hid (fun b g hb W (H : Qx NoT ⟨w, w.heap.size, NoT⟩ W b g 4 hb 4 qv2) => qpick H (by decide) 0 (by decide) (by decide) (by decide) (by decide) (by decide) (by decide))
  have H4 := Lib.hid (fun b g hb W (H : Qx NoT ⟨w, w.heap.size, NoT⟩ W b g 4 hb 4 qv3) => qpick H (by decide) 1 (by decide) (by decide) (by decide) (by decide) (by decide) (by decide))
  have H5 := Lib.hid (fun b g hb W (H : Qx NoT ⟨w, w.heap.size, NoT⟩ W b g 4 hb 4 qv4) => qback H (by decide) 0 0 rfl (by decide) (by decide) (by rw [has_mem]; decide) (by decide) (by decide))
  have H6 := Lib.hid (fun b g hb W (H : Qx NoT ⟨w, w.heap.size, NoT⟩ W b g 4 hb 4 qv5) => qback H (by decide) 1 1 rfl (by decide) (by decide) (by rw [has_mem]; decide) (by decide) (by decide))
  have H7 := Lib.hid (fun b g hb W (H : Qx NoT ⟨w, w.heap.size, NoT⟩ W b g 4 hb 4 qv6) => qpick H (by decide) 0 (by decide) (by decide) (by decide) (by decide) (by decide) (by decide))
  go_enter Tryz.func6, Tryz.ntmps6
  go_wp2_with (first
    | (go_at_call 7; (with_reducible refine HN.out.mono ?_); rintro e w1 ⟨b, g, hb, rfl, hX0⟩)
    | (go_at_call 21; (with_reducible refine (H1.out _ _ _ _ hX0).mono ?_); rintro e w2 ⟨rfl, hX1⟩)
    | (go_at_call 21; (with_reducible refine (H2.out _ _ _ _ hX1).mono ?_); rintro e w3 ⟨rfl, hX2⟩)
    | (go_at_call 22; (with_reducible refine (H3.out _ _ _ _ hX2).mono ?_); rintro e w4 ⟨rfl, hX3⟩)
    | (go_at_call 22; (with_reducible refine (H4.out _ _ _ _ hX3).mono ?_); rintro e w5 ⟨rfl, hX4⟩)
    | (go_at_call 23; (with_reducible refine (H5.out _ _ _ _ hX4).mono ?_); rintro e w6 ⟨rfl, hX5⟩)
    | (go_at_call 23; (with_reducible refine (H6.out _ _ _ _ hX5).mono ?_); rintro e w7 ⟨rfl, hX6⟩)
    | (go_at_call 22; (with_reducible refine (H7.out _ _ _ _ hX6).mono ?_); rintro e w8 ⟨rfl, hX7⟩))
  go_ret
  exact ⟨rfl, kp_to hX7.2⟩
end Go.Proofs.YtabdipfpfbdghaaGreat

/- Threads that share: what holds of a queue's plain state behind each act. -/
namespace Go.Proofs.YtabdipfpfbdghaaGreat
open Go.RowKit
structure QI (n : Nat) (q : QV) (k : Nat) : Prop where
  sd : Sd n q.h
  len : q.rows.length = n
  has : ∀ x, x < n → (hasV q.h x ↔ (q.rows.getD x row0).st = 1)
  tk : ∀ x, x < n → (q.rows.getD x row0).st ≠ 0 → rightT (q.rows.getD x row0).tk = true
  key : ∀ x, x < n → (q.rows.getD x row0).st = 1 → q.h.ks.getD x 0 = (q.rows.getD x row0).ps ∧ q.now ≤ (q.rows.getD x row0).ps ∧ (q.rows.getD x row0).ps ≤ q.now + strideV (q.rows.getD x row0).tk
  now : 0 ≤ q.now ∧ q.now ≤ k * 1099511627776
  pk : ∀ x, x < n → 0 ≤ (q.rows.getD x row0).pk ∧ (q.rows.getD x row0).pk ≤ k
theorem QI.upd {n k k' x : Nat} {q : QV} (I : QI n q k) (hx : x < n) (r : RowQ) (h' : HV) (now' : Int) (hs : Sd n h') (hh : ∀ y, y < n → (hasV h' y ↔ if y = x then r.st = 1 else hasV q.h y)) (hk : ∀ y, y ≠ x → h'.ks.getD y 0 = q.h.ks.getD y 0)
    (hrk : r.st = 1 → h'.ks.getD x 0 = r.ps ∧ now' ≤ r.ps ∧ r.ps ≤ now' + strideV r.tk) (hn : q.now ≤ now') (hn2 : now' ≤ k' * 1099511627776) (ho : ∀ y, y < n → y ≠ x → (q.rows.getD y row0).st = 1 → now' ≤ (q.rows.getD y row0).ps) (ht : r.st ≠ 0 → rightT r.tk = true) (hp : 0 ≤ r.pk ∧ r.pk ≤ k') (hkk : k ≤ k') : QI n ⟨now', q.rows.set x r, h'⟩ k' := by
  have hl : x < q.rows.length := by rw [I.len]; exact hx
  have e1 : (q.rows.set x r).getD x row0 = r := getD_set_same' _ _ _ hl
  have e2 : ∀ y, y ≠ x → (q.rows.set x r).getD y row0 = q.rows.getD y row0 := fun y h => getD_set_other _ _ _ _ h
  have hnow := I.now
  refine ⟨hs, by simp only [List.length_set]; exact I.len, fun y hy => ?_, fun y hy => ?_, fun y hy => ?_, ⟨by show (0 : Int) ≤ now'; omega, hn2⟩, fun y hy => ?_⟩
  · rw [hh y hy]
    by_cases e : y = x
    · rw [if_pos e, e, e1]
    · rw [if_neg e, e2 y e]
      exact I.has y hy
  · by_cases e : y = x
    · rw [e, e1]; exact ht
    · rw [e2 y e]; exact I.tk y hy
  · by_cases e : y = x
    · rw [e, e1]; exact hrk
    · rw [e2 y e]
      intro h1
      obtain ⟨a1, a2, a3⟩ := I.key y hy h1
      refine ⟨(hk y e).trans a1, ho y hy e h1, ?_⟩
      show _ ≤ now' + _
      omega
  · by_cases e : y = x
    · rw [e, e1]; exact hp
    · rw [e2 y e]
      have := I.pk y hy
      omega
theorem QI.more {n k k' : Nat} {q : QV} (I : QI n q k) (h : k ≤ k') : QI n q k' := by
  refine ⟨I.sd, I.len, I.has, I.tk, I.key, ⟨I.now.1, ?_⟩, fun x hx => ⟨(I.pk x hx).1, ?_⟩⟩
  · have := I.now.2
    have h2 : (k : Int) * 1099511627776 ≤ (k' : Int) * 1099511627776 := Int.mul_le_mul_of_nonneg_right (by omega) (by omega)
    omega
  · have := (I.pk x hx).2
    omega
theorem QI.new (n : Nat) : QI n (newR n) 0 := by
  have e : ∀ x, (newR n).rows.getD x row0 = row0 := by
    intro x
    show (List.replicate n row0).getD x row0 = row0
    rw [List.getD_eq_getElem?_getD, List.getElem?_replicate]
    split <;> rfl
  refine ⟨(new_ok n).1, List.length_replicate, fun x hx => ?_, fun x hx h => ?_, fun x hx h => ?_, ⟨Int.le_refl _, by simp [newR]⟩, fun x hx => ?_⟩
  · rw [e]
    exact ⟨fun h => absurd h ((new_ok n).2 x), fun h => by simp [row0] at h⟩
  · rw [e] at h; exact absurd rfl h
  · rw [e] at h; exact absurd h (by decide)
  · rw [e]; exact ⟨Int.le_refl _, Int.le_refl _⟩
theorem satAdd_in {n s : Int} (h : I64 (n + s)) : satAdd n s = n + s := by unfold satAdd; rw [if_pos h]
theorem enter_in {p n s : Int} (h : I64 (n + s)) (hs : 0 ≤ s) : n ≤ enterV p n s ∧ enterV p n s ≤ n + s ∧ (n ≤ p → p ≤ n + s → enterV p n s = p) := by
  unfold enterV clampV
  rw [satAdd_in h]
  refine ⟨?_, ?_, ?_⟩ <;> (repeat' split) <;> omega
theorem joinI {n k x : Nat} {q : QV} (I : QI n q k) (hx : x < n) (t : Int) (ht : rightT t = true) (hs : (q.rows.getD x row0).st = 0) : QI n (joinR q x t) (k + 1) := by
  have hno : ¬ hasV q.h x := fun h => by have := (I.has x hx).1 h; omega
  have T := put_ok I.sd x q.now hx hno
  have hsr := strideQ_in ht
  have hk2 : (k : Int) * 1099511627776 ≤ ((k + 1 : Nat) : Int) * 1099511627776 := Int.mul_le_mul_of_nonneg_right (by omega) (by omega)
  refine I.upd hx _ _ _ T.sd (fun y hy => ?_) (fun y hy => by rw [T.ks, ks_set _ _ _ _ hy]) (fun _ => ?_) (Int.le_refl _) (by have := I.now.2; omega) (fun y hy _ h => (I.key y hy h).2.1) (fun _ => ht) ⟨Int.le_refl _, by show (0 : Int) ≤ _; omega⟩ (by omega)
  · rw [T.has]
    by_cases e : y = x
    · simp [e]
    · simp [e]
  · rw [T.ks]
    refine ⟨?_, Int.le_refl _, by show q.now ≤ q.now + strideV t; omega⟩
    rw [List.getD_eq_getElem?_getD, List.getElem?_set, if_pos rfl, if_pos (by rw [I.sd.klen]; exact hx)]
    rfl
theorem enterI {n k x : Nat} {q : QV} (I : QI n q k) (hk : k ≤ 1000) (hx : x < n) (hs : (q.rows.getD x row0).st = 2 ∨ (q.rows.getD x row0).st = 3) : QI n (enterR q x) (k + 1) := by
  have hno : ¬ hasV q.h x := fun h => by have := (I.has x hx).1 h; omega
  have ht := I.tk x hx (by omega)
  have hsr := strideQ_in ht
  have hnow := I.now
  have T := put_ok I.sd x (enterV (q.rows.getD x row0).ps q.now (strideV (q.rows.getD x row0).tk)) hx hno
  have hk2 : (k : Int) * 1099511627776 ≤ ((k + 1 : Nat) : Int) * 1099511627776 := Int.mul_le_mul_of_nonneg_right (by omega) (by omega)
  have hk3 : (k : Int) * 1099511627776 ≤ 1000 * 1099511627776 := Int.mul_le_mul_of_nonneg_right (by omega) (by omega)
  have he := enter_in (p := (q.rows.getD x row0).ps) (n := q.now) (s := strideV (q.rows.getD x row0).tk) (by unfold I64; omega) (by omega)
  have hp := I.pk x hx
  refine I.upd hx _ _ _ T.sd (fun y hy => ?_) (fun y hy => by rw [T.ks, ks_set _ _ _ _ hy]) (fun _ => ?_) (Int.le_refl _) (by omega) (fun y hy _ h => (I.key y hy h).2.1) (fun _ => ht) ⟨hp.1, by show (q.rows.getD x row0).pk ≤ _; omega⟩ (by omega)
  · rw [T.has]
    by_cases e : y = x
    · simp [e]
    · simp [e]
  · rw [T.ks]
    refine ⟨?_, he.1, he.2.1⟩
    rw [List.getD_eq_getElem?_getD, List.getElem?_set, if_pos rfl, if_pos (by rw [I.sd.klen]; exact hx)]
    rfl
theorem markI {n k x : Nat} {q : QV} (I : QI n q k) (hx : x < n) (hs : (q.rows.getD x row0).st = 2) : QI n (markR q x 3) (k + 1) := by
  have hno : ¬ hasV q.h x := fun h => by have := (I.has x hx).1 h; omega
  have hnow := I.now
  have hk2 : (k : Int) * 1099511627776 ≤ ((k + 1 : Nat) : Int) * 1099511627776 := Int.mul_le_mul_of_nonneg_right (by omega) (by omega)
  have hp := I.pk x hx
  refine I.upd hx _ _ _ I.sd (fun y hy => ?_) (fun _ _ => rfl) (fun h => by simp at h) (Int.le_refl _) (by omega) (fun y hy _ h => (I.key y hy h).2.1) (fun _ => I.tk x hx (by omega)) ⟨hp.1, by show (q.rows.getD x row0).pk ≤ _; omega⟩ (by omega)
  by_cases e : y = x
  · rw [if_pos e, e]; simp [hno]
  · rw [if_neg e]
theorem dropI {n k x : Nat} {q : QV} (I : QI n q k) (hx : x < n) : QI n (dropR q x) (k + 1) := by
  have hnow := I.now
  have hk2 : (k : Int) * 1099511627776 ≤ ((k + 1 : Nat) : Int) * 1099511627776 := Int.mul_le_mul_of_nonneg_right (by omega) (by omega)
  by_cases h1 : (q.rows.getD x row0).st = 1
  · have hh := (I.has x hx).2 h1
    have T := out_ok I.sd _ x (place_ids I.sd x hh)
    unfold dropR
    rw [if_pos h1]
    refine I.upd hx _ _ _ T.sd (fun y hy => ?_) (fun y _ => by rw [T.ks]) (fun h => by simp [row0] at h) (Int.le_refl _) (by omega) (fun y hy _ h => (I.key y hy h).2.1) (fun h => absurd rfl h) ⟨Int.le_refl _, by simp [row0]; omega⟩ (by omega)
    rw [T.has]
    by_cases e : y = x
    · simp [e, row0]
    · simp [e]
  · have hno : ¬ hasV q.h x := fun h => h1 ((I.has x hx).1 h)
    unfold dropR
    rw [if_neg h1]
    refine I.upd hx _ _ _ I.sd (fun y hy => ?_) (fun _ _ => rfl) (fun h => by simp [row0] at h) (Int.le_refl _) (by omega) (fun y hy _ h => (I.key y hy h).2.1) (fun h => absurd rfl h) ⟨Int.le_refl _, by simp [row0]; omega⟩ (by omega)
    by_cases e : y = x
    · rw [if_pos e, e]; simp [hno, row0]
    · rw [if_neg e]
theorem pickI {n k x : Nat} {q : QV} (I : QI n q k) (hx : q.h.ids[0]? = some x) : x < n ∧ (q.rows.getD x row0).st = 1 ∧ q.now ≤ q.h.ks.getD x 0 ∧ q.h.ks.getD x 0 = (q.rows.getD x row0).ps ∧ QI n (pickR q x) (k + 1) := by
  have hxn := (I.sd.bij.r 0 x hx).1
  have hh : hasV q.h x := ⟨0, hx⟩
  have h1 := (I.has x hxn).1 hh
  obtain ⟨a1, a2, a3⟩ := I.key x hxn h1
  have ht := I.tk x hxn (by omega)
  have hsr := strideQ_in ht
  have hnow := I.now
  have hp := I.pk x hxn
  have T := out_ok I.sd 0 x hx
  have hk2 : ((k + 1 : Nat) : Int) * 1099511627776 = (k : Int) * 1099511627776 + 1099511627776 := by rw [Int.natCast_add, Int.add_mul]; rfl
  refine ⟨hxn, h1, by omega, a1, ?_⟩
  refine I.upd hxn _ _ _ T.sd (fun y hy => ?_) (fun y _ => by rw [T.ks]) (fun h => by simp at h) (by omega) (by omega) (fun y hy hne h => ?_) (fun _ => ht) ⟨by show 0 ≤ _ + 1; omega, by show _ + 1 ≤ _; omega⟩ (by omega)
  · rw [T.has]
    by_cases e : y = x
    · simp [e]
    · simp [e]
  · have hl := first_least I.sd x hx y ((I.has y hy).2 h)
    obtain ⟨b1, _⟩ := I.key y hy h
    unfold leK at hl
    rw [← b1]
    omega
end Go.Proofs.YtabdipfpfbdghaaGreat
