/- Package ready: Block, Wake, Drop, State, Picks, and Join of whoever, of a queue that was made. -/
import Derived.Test.YtabdipfpfbdghaaReadyTurn
namespace Go.Proofs.Ytabdipfpfbdghaa
open Go.RowKit
theorem qstay (v : Value) (w : World) : Calls Try.prog 30 #[v] w fun e w' => e = .returned (.tuple #[]) ∧ w = w' := by
  go_enter Try.func30, Try.ntmps30
  go_wp2
  exact bodyPost_end (v := .tuple #[]) (by simp [results, Try.results30, go_sem]) rfl ⟨rfl, rfl⟩
def markR (q : QV) (x : Nat) (s : Int) : QV := ⟨q.now, q.rows.set x ⟨s, (q.rows.getD x row0).tk, (q.rows.getD x row0).ps, (q.rows.getD x row0).pk⟩, q.h⟩
set_option maxHeartbeats 1000000 in
theorem qblock {TK : Nat → Prop} {w0 w : World} {b g c hb n : Nat} {q : QV} (Q : Qx TK w0 w b g c hb n q) (x : Nat) (z : Int) (hz : z = (x : Int)) (hx : x < n) (hf : (q.rows.getD x row0).st = 2) :
    Calls Try.prog 9 #[.pointer (some ⟨b, 0, none⟩), .int .i64 z] w fun e w' => e = .returned (.int .i64 0) ∧ Qx NoT w0 w' b g c hb n (markR q x 3) := by
  subst hz
  have eg : ∀ args w, (callFunc 30 args).run Try.prog w = .ok (.enter 30 args) w := Go.Proofs.enters_of Try.func30 (by kernel_rfl) rfl
  have Q1 := (Q.setRow hx 0 (by decide) (.int .i64 3) ⟨3, (q.rows.getD x row0).tk, (q.rows.getD x row0).ps, (q.rows.getD x row0).pk⟩ rfl).free
  have HT := Lib.hid (qturn Q x x rfl hx 2 3 hf 30 #[] eg (fun w' => Qx NoT w0 w' b g c hb n (markR q x 3)) ((qstay _ _).mono (fun e w' ⟨h1, h2⟩ => ⟨h1, h2 ▸ Q1⟩)))
  clear Q hf Q1
  go_enter Try.func9, Try.ntmps9
  go_wp2_with (go_at_call 29; (with_reducible refine HT.out.mono ?_); rintro e w2 ⟨rfl, hQ⟩)
  go_ret
  exact ⟨rfl, hQ⟩
set_option maxRecDepth 100000 in
set_option maxHeartbeats 4000000 in
/-- enter, of one whose state is another one. -/
theorem qenterNo {TK : Nat → Prop} {w0 w : World} {b g c hb n : Nat} {q : QV} (Q : Qx TK w0 w b g c hb n q) (x : Nat) (z : Int) (hz : z = (x : Int)) (hx : x < n) (frm : Int) (hf : (q.rows.getD x row0).st ≠ frm) :
    Calls Try.prog 28 #[.pointer (some ⟨b, 0, none⟩), .int .i64 z, .int .i64 frm] w fun e w' => e = .returned (.int .i64 5) ∧ Qx NoT w0 w' b g c hb n q := by
  subst hz
  have hal : Below w.heap.size w ((w.alloc (.cells #[.pointer (some ⟨b, 0, none⟩)] (25 : Nat))).alloc (.cells #[.int .i64 x] (3 : Nat))) := below_al (below_al (Below.refl _ _) _) _
  have HT := Lib.hid (fun fv => qturnNo (Q.below hal) x x rfl hx frm 1 hf fv)
  have HQ := Lib.hid (Q.below hal).free
  clear Q hf hal
  go_enter Try.func28, Try.ntmps28
  go_wp2_with (go_at_call 29; (with_reducible refine (HT.out _).mono ?_); rintro e w2 ⟨rfl, rfl⟩)
  go_ret
  exact ⟨rfl, HQ.out⟩
set_option maxHeartbeats 1000000 in
theorem qwake {TK : Nat → Prop} {w0 w : World} {b g c hb n : Nat} {q : QV} (Q : Qx TK w0 w b g c hb n q) (hn : n ≤ 4096) (x : Nat) (z : Int) (hz : z = (x : Int)) (hx : x < n) (hh : (q.rows.getD x row0).st = 3 → ¬ hasV q.h x) (b1 : I64 q.now) (b2 : (q.rows.getD x row0).st = 3 → rightT (q.rows.getD x row0).tk = true) :
    Calls Try.prog 10 #[.pointer (some ⟨b, 0, none⟩), .int .i64 z] w fun e w' => (∃ k, e = .returned (.int .i64 k)) ∧ ∃ q', Qx NoT w0 w' b g c hb n q' ∧ (q' = q ∨ q' = enterR q x ∧ (q.rows.getD x row0).st = 3) := by
  subst hz
  have HE : Hid (Calls Try.prog 28 #[.pointer (some ⟨b, 0, none⟩), .int .i64 x, .int .i64 3] w fun e w' => (∃ k, e = .returned (.int .i64 k)) ∧ ∃ q', Qx NoT w0 w' b g c hb n q' ∧ (q' = q ∨ q' = enterR q x ∧ (q.rows.getD x row0).st = 3)) := by
    by_cases h : (q.rows.getD x row0).st = 3
    · refine (qenter Q hn x x rfl hx 3 h (hh h) b1 (b2 h)).mono ?_
      rintro e w' ⟨rfl, h1⟩
      exact ⟨⟨_, rfl⟩, _, h1, .inr ⟨rfl, h⟩⟩
    · refine (qenterNo Q x x rfl hx 3 h).mono ?_
      rintro e w' ⟨rfl, h1⟩
      exact ⟨⟨_, rfl⟩, _, h1, .inl rfl⟩
  clear Q hh b1 b2
  go_enter Try.func10, Try.ntmps10
  go_wp2_with (go_at_call 28; (with_reducible refine HE.out.mono ?_); rintro e w2 ⟨⟨k, rfl⟩, q', hQ⟩)
  go_ret
  exact ⟨⟨_, rfl⟩, q', hQ⟩
set_option maxHeartbeats 1000000 in
theorem qstate {TK : Nat → Prop} {w0 w : World} {b g c hb n : Nat} {q : QV} (Q : Qx TK w0 w b g c hb n q) (x : Nat) (z : Int) (hz : z = (x : Int)) (hx : x < n) :
    Calls Try.prog 11 #[.pointer (some ⟨b, 0, none⟩), .int .i64 z] w fun e w' => e = .returned (.int .i64 (q.rows.getD x row0).st) ∧ w = w' := by
  have HF := Lib.hid (qfind Q x z hz hx)
  subst hz
  obtain ⟨r0, _⟩ := Q.row hx
  have k0 := r0.cell
  generalize (q.rows.getD x row0).st = st at k0 ⊢
  clear Q r0
  go_enter Try.func11, Try.ntmps11
  go_wp2_with (go_at_call 25; (with_reducible refine HF.out.mono ?_); rintro e w1 ⟨rfl, rfl⟩)
  go_ret
  exact ⟨rfl, rfl⟩
set_option maxHeartbeats 1000000 in
theorem qpicks1 (st tk ps pk : Int) (w : World) : Calls Try.prog 38 #[.agg #[.int .i64 st, .int .i64 tk, .int .i64 ps, .int .i64 pk]] w fun e w' => e = .returned (.int .i64 pk) ∧ Below w.heap.size w w' := by
  have hal : Below w.heap.size w (w.alloc (.cells #[.int .i64 st, .int .i64 tk, .int .i64 ps, .int .i64 pk] (55 : Nat))) := below_al (Below.refl _ _) _
  have HA := Lib.hid hal
  clear hal
  go_enter Try.func38, Try.ntmps38
  go_wp2
  go_ret
  exact ⟨rfl, HA.out⟩
set_option maxHeartbeats 1000000 in
theorem qpicks {TK : Nat → Prop} {w0 w : World} {b g c hb n : Nat} {q : QV} (Q : Qx TK w0 w b g c hb n q) (x : Nat) (z : Int) (hz : z = (x : Int)) (hx : x < n) :
    Calls Try.prog 15 #[.pointer (some ⟨b, 0, none⟩), .int .i64 z] w fun e w' => e = .returned (.int .i64 (q.rows.getD x row0).pk) ∧ Below w.heap.size w w' := by
  have HF := Lib.hid (qfind Q x z hz hx)
  subst hz
  obtain ⟨r0, r1, r2, r3⟩ := Q.row hx
  have k0 := r0.cell
  have k1 := r1.cell
  have k2 := r2.cell
  have k3 := r3.cell
  have HP := Lib.hid (qpicks1 (q.rows.getD x row0).st (q.rows.getD x row0).tk (q.rows.getD x row0).ps (q.rows.getD x row0).pk w)
  generalize q.rows.getD x row0 = r at k0 k1 k2 k3 HP ⊢
  clear Q r0 r1 r2 r3
  go_enter Try.func15, Try.ntmps15
  go_wp2_with (first
    | (go_at_call 25; (with_reducible refine HF.out.mono ?_); rintro e w1 ⟨rfl, rfl⟩)
    | (go_at_call 38; (with_reducible refine HP.out.mono ?_); rintro e w1 ⟨rfl, hb1⟩))
  go_ret
  exact ⟨rfl, hb1⟩
def dropR (q : QV) (x : Nat) : QV := ⟨q.now, q.rows.set x row0, if (q.rows.getD x row0).st = 1 then outV q.h (placeV q.h x) else q.h⟩
set_option maxRecDepth 100000 in
set_option maxHeartbeats 4000000 in
theorem qdrop {TK : Nat → Prop} {w0 w : World} {b g c hb n : Nat} {q : QV} (Q : Qx TK w0 w b g c hb n q) (hn : n ≤ 4096) (x : Nat) (z : Int) (hz : z = (x : Int)) (hx : x < n) (hh : (q.rows.getD x row0).st = 1 → hasV q.h x) :
    Calls Try.prog 12 #[.pointer (some ⟨b, 0, none⟩), .int .i64 z] w fun e w' => (∃ k, e = .returned (.int .i64 k)) ∧ ∃ q', Qx NoT w0 w' b g c hb n q' ∧ (q' = q ∨ q' = dropR q x ∧ (q.rows.getD x row0).st ≠ 0) := by
  have HF := Lib.hid (qfind Q x z hz hx)
  subst hz
  obtain ⟨r0, r1, r2, r3⟩ := Q.row hx
  have k0 := r0.cell
  have k1 := r1.cell
  have k2 := r2.cell
  have k3 := r3.cell
  have f0 := r0.free
  have f1 := r1.free
  have f2 := r2.free
  have f3 := r3.free
  have HD : Hid (dropR q x = ⟨q.now, q.rows.set x row0, if (q.rows.getD x row0).st = 1 then outV q.h (placeV q.h x) else q.h⟩) := rfl
  obtain ⟨st, hst⟩ : ∃ st, (q.rows.getD x row0).st = st := ⟨_, rfl⟩
  rw [hst] at HD hh k0 ⊢
  generalize (q.rows.getD x row0).tk = tk at k1
  generalize (q.rows.getD x row0).ps = ps at k2
  generalize (q.rows.getD x row0).pk = pk at k3
  by_cases h0 : st = 0
  · subst h0
    have HQ := Lib.hid Q.free
    clear Q r0 r1 r2 r3 hst HD hh
    go_enter Try.func12, Try.ntmps12
    go_wp2_with (go_at_call 25; (with_reducible refine HF.out.mono ?_); rintro e w1 ⟨rfl, rfl⟩)
    go_ret
    exact ⟨⟨_, rfl⟩, q, HQ.out, .inl rfl⟩
  · by_cases h1 : st = 1
    · subst h1
      rw [if_pos rfl] at HD
      have HR := Lib.hid (Q.remove hn x x rfl (hh rfl))
      obtain ⟨b0, b1, b2⟩ := Q.box
      have kb := b2.cell
      have HRW : Hid (∀ W hv, Qx TK w0 W b g c hb n ⟨q.now, q.rows, hv⟩ → (∃ v, W.cell? ⟨g, x * 4, none⟩ = some v) ∧ (∃ v, W.cell? ⟨g, x * 4 + 1, none⟩ = some v) ∧ (∃ v, W.cell? ⟨g, x * 4 + 2, none⟩ = some v) ∧ (∃ v, W.cell? ⟨g, x * 4 + 3, none⟩ = some v) ∧ W.frozen? ⟨g, x * 4, none⟩ = false ∧ W.frozen? ⟨g, x * 4 + 1, none⟩ = false ∧ W.frozen? ⟨g, x * 4 + 2, none⟩ = false ∧ W.frozen? ⟨g, x * 4 + 3, none⟩ = false) := by
        intro W hv h
        obtain ⟨r0, r1, r2, r3⟩ := h.row hx
        exact ⟨⟨_, r0.cell⟩, ⟨_, r1.cell⟩, ⟨_, r2.cell⟩, ⟨_, r3.cell⟩, r0.free, r1.free, r2.free, r3.free⟩
      have HS := Lib.hid (fun W hv (h : Qx TK w0 W b g c hb n ⟨q.now, q.rows, hv⟩) => (h.setAll hx row0).free)
      clear Q r0 r1 r2 r3 hst hh b0 b1 b2
      go_enter Try.func12, Try.ntmps12
      go_wp2_with (first
        | (go_at_call 25; (with_reducible refine HF.out.mono ?_); rintro e w1 ⟨rfl, rfl⟩)
        | (go_at_call 31; (with_reducible refine HR.out.mono ?_); rintro e w1 ⟨rfl, hQ, _⟩; obtain ⟨⟨_, c0⟩, ⟨_, c1⟩, ⟨_, c2⟩, ⟨_, c3⟩, d0, d1, d2, d3⟩ := HRW.out _ _ hQ))
      go_ret
      refine ⟨⟨_, rfl⟩, dropR q x, ?_, .inr ⟨rfl, by decide⟩⟩
      rw [HD.out]
      exact HS.out _ _ hQ
    · rw [if_neg h1] at HD
      have HS := Lib.hid (Q.setAll hx row0).free
      clear Q r0 r1 r2 r3 hst hh
      go_enter Try.func12, Try.ntmps12
      go_wp2_with (go_at_call 25; (with_reducible refine HF.out.mono ?_); rintro e w1 ⟨rfl, rfl⟩)
      go_ret
      refine ⟨⟨_, rfl⟩, dropR q x, ?_, .inr ⟨rfl, h0⟩⟩
      rw [HD.out]
      exact HS.out
set_option maxRecDepth 100000 in
set_option maxHeartbeats 4000000 in
theorem qjoinNo {TK : Nat → Prop} {w0 w : World} {b g c hb n : Nat} {q : QV} (Q : Qx TK w0 w b g c hb n q) (x : Nat) (z t : Int) (hz : z = (x : Int)) (hx : x < n) (hno : rightT t = false ∨ (q.rows.getD x row0).st ≠ 0) :
    Calls Try.prog 7 #[.pointer (some ⟨b, 0, none⟩), .int .i64 z, .int .i64 t] w fun e w' => (∃ k, e = .returned (.int .i64 k)) ∧ Qx NoT w0 w' b g c hb n q := by
  have HF := Lib.hid (qfind Q x z hz hx)
  subst hz
  have HS := Lib.hid (sstride t w)
  have HQ := Lib.hid Q
  by_cases h1 : strideV t = 0
  · rw [h1] at HS
    clear Q hno h1
    go_enter Try.func7, Try.ntmps7
    go_wp2_with (first
      | (go_at_call 25; (with_reducible refine HF.out.mono ?_); rintro e w1 ⟨rfl, rfl⟩)
      | (go_at_call 26; (with_reducible refine HS.out.mono ?_); rintro e w1 ⟨rfl, hb1⟩))
    go_ret
    exact ⟨⟨_, rfl⟩, (HQ.out.below hb1).free⟩
  · have hst : (q.rows.getD x row0).st ≠ 0 := by
      rcases hno with h | h
      · exact absurd (by unfold strideV; rw [h]; rfl) h1
      · exact h
    obtain ⟨r0, _⟩ := Q.row hx
    have k0 := r0.cell
    have HK := Lib.hid k0
    generalize strideV t = s at HS h1
    generalize (q.rows.getD x row0).st = st at hst HK
    clear Q hno r0 k0
    go_enter Try.func7, Try.ntmps7
    go_wp2_with (first
      | (go_at_call 25; (with_reducible refine HF.out.mono ?_); rintro e w1 ⟨rfl, rfl⟩)
      | (go_at_call 26; (with_reducible refine HS.out.mono ?_); rintro e w1 ⟨rfl, hb1⟩; have k1 := cell_below hb1 HK.out))
    go_ret
    exact ⟨⟨_, rfl⟩, (HQ.out.below hb1).free⟩
theorem qjoinAny {TK : Nat → Prop} {w0 w : World} {b g c hb n : Nat} {q : QV} (Q : Qx TK w0 w b g c hb n q) (hn : n ≤ 4096) (x : Nat) (z t : Int) (hz : z = (x : Int)) (hx : x < n) (hh : (q.rows.getD x row0).st = 0 → ¬ hasV q.h x) :
    Calls Try.prog 7 #[.pointer (some ⟨b, 0, none⟩), .int .i64 z, .int .i64 t] w fun e w' => (∃ k, e = .returned (.int .i64 k)) ∧ ∃ q', Qx NoT w0 w' b g c hb n q' ∧ (q' = q ∨ q' = joinR q x t ∧ (q.rows.getD x row0).st = 0 ∧ rightT t = true) := by
  by_cases h : rightT t = true ∧ (q.rows.getD x row0).st = 0
  · refine (qjoin Q hn x z t hz hx h.1 h.2 (hh h.2)).mono ?_
    rintro e w' ⟨rfl, h1⟩
    exact ⟨⟨_, rfl⟩, _, h1.free, .inr ⟨rfl, h.2, h.1⟩⟩
  · refine (qjoinNo Q x z t hz hx ?_).mono ?_
    · by_cases h1 : rightT t = true
      · exact .inr (fun h2 => h ⟨h1, h2⟩)
      · exact .inl (by simpa using h1)
    · rintro e w' ⟨h1, h2⟩
      exact ⟨h1, _, h2, .inl rfl⟩
end Go.Proofs.Ytabdipfpfbdghaa
