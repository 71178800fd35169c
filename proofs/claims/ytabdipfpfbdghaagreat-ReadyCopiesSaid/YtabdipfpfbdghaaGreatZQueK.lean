/- The queue of ready threads in the world: its box, its rows, its heap. -/
import Derived.Test.YtabdipfpfbdghaaGreatZHeapOut
namespace Go.Proofs.YtabdipfpfbdghaaGreat
open Go.RowKit
structure RowQ where
  st : Int
  tk : Int
  ps : Int
  pk : Int
def row0 : RowQ := ⟨0, 0, 0, 0⟩
def rowC (r : RowQ) : List Value := [.int .i64 r.st, .int .i64 r.tk, .int .i64 r.ps, .int .i64 r.pk]
def rowsQ (l : List RowQ) : List Value := (l.map rowC).flatten
theorem flat4_get : ∀ (ll : List (List Value)), (∀ x ∈ ll, x.length = 4) → ∀ (i f : Nat), f < 4 → ll.flatten[i * 4 + f]? = (ll[i]?).bind fun x => x[f]?
  | [], _, i, f, _ => by simp
  | x :: ll, h, 0, f, hf => by
    have hx := h x (List.mem_cons_self)
    rw [List.flatten_cons, List.getElem?_append_left (by omega)]
    simp
  | x :: ll, h, i + 1, f, hf => by
    have hx := h x (List.mem_cons_self)
    rw [List.flatten_cons, List.getElem?_append_right (by omega), show (i + 1) * 4 + f - x.length = i * 4 + f by omega]
    simpa using flat4_get ll (fun y hy => h y (List.mem_cons_of_mem _ hy)) i f hf
theorem flat4_set (v : Value) : ∀ (ll : List (List Value)), (∀ x ∈ ll, x.length = 4) → ∀ (i f : Nat), f < 4 → i < ll.length → ll.flatten.set (i * 4 + f) v = (ll.set i ((ll.getD i []).set f v)).flatten
  | [], _, i, f, _, hi => absurd hi (by simp)
  | x :: ll, h, 0, f, hf, _ => by
    have hx := h x (List.mem_cons_self)
    rw [List.flatten_cons, List.set_append_left _ _ (by omega)]
    simp
  | x :: ll, h, i + 1, f, hf, hi => by
    have hx := h x (List.mem_cons_self)
    rw [List.flatten_cons, List.set_append_right _ _ (by omega), show (i + 1) * 4 + f - x.length = i * 4 + f by omega]
    have := flat4_set v ll (fun y hy => h y (List.mem_cons_of_mem _ hy)) i f hf (by simpa using hi)
    rw [this]
    simp
theorem rowC_four (l : List RowQ) : ∀ x ∈ l.map rowC, x.length = 4 := by
  intro x hx
  obtain ⟨r, _, rfl⟩ := List.mem_map.1 hx
  rfl
theorem rowsQ_get (l : List RowQ) (i f : Nat) (hf : f < 4) (hi : i < l.length) : (rowsQ l)[i * 4 + f]? = (rowC (l.getD i row0))[f]? := by
  unfold rowsQ
  rw [flat4_get _ (rowC_four l) i f hf, List.getElem?_map, List.getElem?_eq_getElem hi]
  simp [List.getD_eq_getElem?_getD, hi]
theorem rowsQ_set (l : List RowQ) (i f : Nat) (hf : f < 4) (hi : i < l.length) (v : Value) (r : RowQ) (hr : (rowC (l.getD i row0)).set f v = rowC r) : (rowsQ l).set (i * 4 + f) v = rowsQ (l.set i r) := by
  unfold rowsQ
  rw [flat4_set v _ (rowC_four l) i f hf (by simpa using hi), List.map_set]
  congr 2
  rw [← hr]
  simp [List.getD_eq_getElem?_getD, hi]
theorem rowsQ_len (l : List RowQ) : (rowsQ l).length = l.length * 4 := by
  unfold rowsQ
  induction l with
  | nil => rfl
  | cons r l ih =>
    rw [List.map_cons, List.flatten_cons, List.length_append, ih]
    simp [rowC]
    omega
/-- A row's cells. -/
theorem qget {W : World} {base g n c : Nat} {l : List RowQ} (h : W.ownsRow base 61 4 (.slice (some ⟨g, 0, none⟩) n c) n (rowsQ l)) {i : Nat} (hi : i < n) :
    l.length = n ∧ (∀ (f : Nat) (v : Value), f < 4 → (rowC (l.getD i row0))[f]? = some v → Box W g (i * 4 + f) v) := by
  have hl : l.length = n := by have := h.1; rw [rowsQ_len] at this; omega
  refine ⟨hl, fun f v hf hv => ⟨?_, h.frozenAt _⟩⟩
  have h1 := h.cellAt (i * 4 + f) (by omega)
  have h2 := rowsQ_get l i f hf (show i < l.length by omega)
  rw [hv] at h2
  rw [h1]
  first | exact h2 | (rw [← List.getElem?_eq_getElem]; exact h2)
theorem qset {W : World} {base g n c : Nat} {l : List RowQ} (h : W.ownsRow base 61 4 (.slice (some ⟨g, 0, none⟩) n c) n (rowsQ l)) {i : Nat} (hi : i < n) (f : Nat) (hf : f < 4) (v : Value) (r : RowQ) (hr : (rowC (l.getD i row0)).set f v = rowC r) :
    (W.setCell ⟨g, i * 4 + f, none⟩ v).ownsRow base 61 4 (.slice (some ⟨g, 0, none⟩) n c) n (rowsQ (l.set i r)) := by
  have hl : l.length = n := by have := h.1; rw [rowsQ_len] at this; omega
  have h2 := (h.stored (i * 4 + f) v).1
  rwa [rowsQ_set l i f hf (by omega) v r hr] at h2
/-- A queue. -/
structure QV where
  now : Int
  rows : List RowQ
  h : HV
structure Qw (w : World) (base b g c hb gk gp ck cp n : Nat) (iv : Value) (q : QV) : Prop where
  nb : Box w b 0 (.int .i64 q.now)
  rb : Box w b 1 (.slice (some ⟨g, 0, none⟩) n c)
  hx : Box w b 2 (.pointer (some ⟨hb, 0, none⟩))
  ro : w.ownsRow base 61 4 (.slice (some ⟨g, 0, none⟩) n c) n (rowsQ q.rows)
  hp : Hp w hb gk gp base n ck cp iv q.h
  sd : Sd n q.h
  ne : b ≠ g ∧ b ≠ hb ∧ b ≠ gk ∧ b ≠ gp ∧ g ≠ hb ∧ g ≠ gk ∧ g ≠ gp
  ni : ∀ k, iv.ownBlock = some k → k ≠ b ∧ k ≠ g
  lb : base ≤ b
  lh : base ≤ hb ∧ base ≤ gk ∧ base ≤ gp
theorem Qw.below {w w1 : World} {base b g c hb gk gp ck cp n : Nat} {iv : Value} {q : QV} (Q : Qw w base b g c hb gk gp ck cp n iv q) (h : Below w.heap.size w w1) : Qw w1 base b g c hb gk gp ck cp n iv q :=
  ⟨Q.nb.below h, Q.rb.below h, Q.hx.below h, own_below Q.ro h, Q.hp.below h, Q.sd, Q.ne, Q.ni, Q.lb, Q.lh⟩
theorem Qw.acts {w w' : World} {base b g c hb gk gp ck cp n : Nat} {iv : Value} {q : QV} {h' : HV} (Q : Qw w base b g c hb gk gp ck cp n iv q) (A : Acts w w' hb gk gp base n ck cp iv h') (s : Sd n h') :
    (∃ iv', Qw w' base b g c hb gk gp ck cp n iv' ⟨q.now, q.rows, h'⟩ ∧ (iv'.ownBlock = iv.ownBlock ∨ ∃ k, iv'.ownBlock = some k ∧ w.heap.size ≤ k)) ∧ Chg (fun k => base ≤ k) w w' := by
  obtain ⟨⟨iv', h1, h2⟩, h3⟩ := A
  obtain ⟨n1, n2, n3, n4, n5, n6, n7⟩ := Q.ne
  have hb1 := Q.nb.lt
  have hg1 := (Q.ro.lt g rfl).2
  have nS : ∀ k, (k = b ∨ k = g) → ¬ HS hb gk gp iv k := by
    rintro k hk (e | e | e | e)
    · omega
    · omega
    · omega
    · have := Q.ni k e
      omega
  refine ⟨⟨iv', ⟨Q.nb.keep h3 (nS _ (.inl rfl)), Q.rb.keep h3 (nS _ (.inl rfl)), Q.hx.keep h3 (nS _ (.inl rfl)), h3.own Q.ro (fun k e => by cases e; exact nS _ (.inr rfl)), h1, s, Q.ne, ?_, Q.lb, Q.lh⟩, h2⟩, h3.mono (fun k _ e => ?_)⟩
  · intro k hk
    rcases h2 with h2 | ⟨k', h2, h4⟩
    · exact Q.ni k (h2 ▸ hk)
    · rw [hk] at h2
      cases h2
      omega
  · obtain ⟨l1, l2, l3⟩ := Q.lh
    rcases e with e | e | e | e
    · rw [e]; exact l1
    · rw [e]; exact l2
    · rw [e]; exact l3
    · exact own_base Q.hp.io k e
/-- A frame: a world, what lies ahead of base, and blocks that stay. -/
structure FrQ where
  w : World
  base : Nat
  K : Nat → Prop
structure Kp (F : FrQ) (w : World) : Prop where
  os : w.os = F.w.os
  tape : w.tape = F.w.tape
  output : w.output = F.w.output
  sz : F.w.heap.size ≤ w.heap.size
  bz : F.base ≤ F.w.heap.size
  block : ∀ k, k < F.w.heap.size → (k < F.base ∨ F.K k) → w.heap[k]? = F.w.heap[k]?
theorem Kp.size {F : FrQ} {w : World} (h : Kp F w) : F.base ≤ w.heap.size := Nat.le_trans h.bz h.sz
theorem Kp.chg {F : FrQ} {w w1 : World} {S : Nat → Prop} (h : Kp F w) (c : Chg S w w1) (hs : ∀ k, S k → F.base ≤ k ∧ ¬ F.K k) : Kp F w1 :=
  ⟨c.os.trans h.os, c.tape.trans h.tape, c.output.trans h.output, Nat.le_trans h.sz c.size, h.bz, fun k hk hb => (c.block k (Nat.lt_of_lt_of_le hk h.sz) (fun e => by
    obtain ⟨h1, h2⟩ := hs k e
    rcases hb with hb | hb
    · omega
    · exact h2 hb)).trans (h.block k hk hb)⟩
theorem Kp.below {F : FrQ} {w w1 : World} (h : Kp F w) (hb : Below w.heap.size w w1) : Kp F w1 := h.chg (S := fun _ => False) (Chg.of_below hb) (fun _ e => e.elim)
/-- A queue in a frame. -/
def Qx (TK : Nat → Prop) (w0 : FrQ) (w : World) (b g c hb n : Nat) (q : QV) : Prop := (∃ gk gp ck cp iv, Qw w w0.base b g c hb gk gp ck cp n iv q ∧ ∀ k, (TK k ∨ w0.K k) → k < w.heap.size ∧ k ≠ b ∧ k ≠ g ∧ ¬ HS hb gk gp iv k) ∧ Kp w0 w
theorem Qx.below {TK : Nat → Prop} {w0 : FrQ} {w w1 : World} {b g c hb n : Nat} {q : QV} (Q : Qx TK w0 w b g c hb n q) (h : Below w.heap.size w w1) : Qx TK w0 w1 b g c hb n q := by
  obtain ⟨⟨gk, gp, ck, cp, iv, Q1, QT⟩, Q2⟩ := Q
  exact ⟨⟨gk, gp, ck, cp, iv, Q1.below h, fun k hk => ⟨Nat.lt_of_lt_of_le (QT k hk).1 h.size, (QT k hk).2⟩⟩, Q2.below h⟩
theorem Qx.sd {TK : Nat → Prop} {w0 : FrQ} {w : World} {b g c hb n : Nat} {q : QV} (Q : Qx TK w0 w b g c hb n q) : Sd n q.h := by
  obtain ⟨⟨gk, gp, ck, cp, iv, Q1, QT⟩, Q2⟩ := Q
  exact Q1.sd
theorem Qx.box {TK : Nat → Prop} {w0 : FrQ} {w : World} {b g c hb n : Nat} {q : QV} (Q : Qx TK w0 w b g c hb n q) : Box w b 0 (.int .i64 q.now) ∧ Box w b 1 (.slice (some ⟨g, 0, none⟩) n c) ∧ Box w b 2 (.pointer (some ⟨hb, 0, none⟩)) := by
  obtain ⟨⟨gk, gp, ck, cp, iv, Q1, QT⟩, Q2⟩ := Q
  exact ⟨Q1.nb, Q1.rb, Q1.hx⟩
theorem Qx.ne {TK : Nat → Prop} {w0 : FrQ} {w : World} {b g c hb n : Nat} {q : QV} (Q : Qx TK w0 w b g c hb n q) : b ≠ g := by
  obtain ⟨⟨gk, gp, ck, cp, iv, Q1, QT⟩, Q2⟩ := Q
  exact Q1.ne.1
theorem Qx.rowsN {TK : Nat → Prop} {w0 : FrQ} {w : World} {b g c hb n : Nat} {q : QV} (Q : Qx TK w0 w b g c hb n q) : q.rows.length = n := by
  obtain ⟨⟨gk, gp, ck, cp, iv, Q1, QT⟩, Q2⟩ := Q
  have := Q1.ro.1
  rw [rowsQ_len] at this
  omega
theorem Qx.row {TK : Nat → Prop} {w0 : FrQ} {w : World} {b g c hb n : Nat} {q : QV} (Q : Qx TK w0 w b g c hb n q) {i : Nat} (hi : i < n) :
    Box w g (i * 4) (.int .i64 (q.rows.getD i row0).st) ∧ Box w g (i * 4 + 1) (.int .i64 (q.rows.getD i row0).tk) ∧ Box w g (i * 4 + 2) (.int .i64 (q.rows.getD i row0).ps) ∧ Box w g (i * 4 + 3) (.int .i64 (q.rows.getD i row0).pk) := by
  obtain ⟨⟨gk, gp, ck, cp, iv, Q1, QT⟩, Q2⟩ := Q
  have h := (qget Q1.ro hi).2
  exact ⟨h 0 _ (by decide) rfl, h 1 _ (by decide) rfl, h 2 _ (by decide) rfl, h 3 _ (by decide) rfl⟩
theorem Qx.setNow {TK : Nat → Prop} {w0 : FrQ} {w : World} {b g c hb n : Nat} {q : QV} (Q : Qx TK w0 w b g c hb n q) (v : Int) : Qx TK w0 (w.setCell ⟨b, 0, none⟩ (.int .i64 v)) b g c hb n ⟨v, q.rows, q.h⟩ := by
  obtain ⟨⟨gk, gp, ck, cp, iv, Q1, QT⟩, Q2⟩ := Q
  obtain ⟨n1, n2, n3, n4, n5, n6, n7⟩ := Q1.ne
  have c1 : Chg (fun k => k = b) w (w.setCell ⟨b, 0, none⟩ (.int .i64 v)) := (Chg.refl _ _).setCell _ _ _ rfl
  exact ⟨⟨gk, gp, ck, cp, iv, ⟨Q1.nb.set _, Q1.rb.set_other _ (by decide), Q1.hx.set_other _ (by decide), c1.own Q1.ro (fun k e e2 => by cases e; exact n1 e2.symm), Q1.hp.keep c1 (fun e => n2 e.symm) (fun e => n3 e.symm) (fun e => n4 e.symm) (fun k e e2 => (Q1.ni k e).1 e2), Q1.sd, Q1.ne, Q1.ni, Q1.lb, Q1.lh⟩, fun k hk => ⟨Nat.lt_of_lt_of_le (QT k hk).1 c1.size, (QT k hk).2⟩⟩, Q2.chg c1 (fun k e => by rw [e]; exact ⟨Q1.lb, fun hk => (QT b (.inr hk)).2.1 rfl⟩)⟩
theorem Qx.setRow {TK : Nat → Prop} {w0 : FrQ} {w : World} {b g c hb n : Nat} {q : QV} (Q : Qx TK w0 w b g c hb n q) {i : Nat} (hi : i < n) (f : Nat) (hf : f < 4) (v : Value) (r : RowQ) (hr : (rowC (q.rows.getD i row0)).set f v = rowC r) : Qx TK w0 (w.setCell ⟨g, i * 4 + f, none⟩ v) b g c hb n ⟨q.now, q.rows.set i r, q.h⟩ := by
  obtain ⟨⟨gk, gp, ck, cp, iv, Q1, QT⟩, Q2⟩ := Q
  obtain ⟨n1, n2, n3, n4, n5, n6, n7⟩ := Q1.ne
  have c1 : Chg (fun k => k = g) w (w.setCell ⟨g, i * 4 + f, none⟩ v) := (Chg.refl _ _).setCell _ _ _ rfl
  exact ⟨⟨gk, gp, ck, cp, iv, ⟨Q1.nb.keep c1 n1, Q1.rb.keep c1 n1, Q1.hx.keep c1 n1, qset Q1.ro hi f hf v r hr, Q1.hp.keep c1 (fun e => n5 e.symm) (fun e => n6 e.symm) (fun e => n7 e.symm) (fun k e e2 => (Q1.ni k e).2 e2), Q1.sd, Q1.ne, Q1.ni, Q1.lb, Q1.lh⟩, fun k hk => ⟨Nat.lt_of_lt_of_le (QT k hk).1 c1.size, (QT k hk).2⟩⟩, Q2.chg c1 (fun k e => by rw [e]; exact ⟨(Q1.ro.lt g rfl).1, fun hk => (QT g (.inr hk)).2.2.1 rfl⟩)⟩
theorem getD_set_same' (l : List RowQ) (i : Nat) (r : RowQ) (h : i < l.length) : (l.set i r).getD i row0 = r := by
  simp [List.getD_eq_getElem?_getD, h]
theorem getD_set_other (l : List RowQ) (i j : Nat) (r : RowQ) (h : j ≠ i) : (l.set i r).getD j row0 = l.getD j row0 := by
  rw [List.getD_eq_getElem?_getD, List.getD_eq_getElem?_getD, List.getElem?_set, if_neg (fun e => h e.symm)]
theorem Qx.setAll {TK : Nat → Prop} {w0 : FrQ} {w : World} {b g c hb n : Nat} {q : QV} (Q : Qx TK w0 w b g c hb n q) {i : Nat} (hi : i < n) (r : RowQ) : Qx TK w0 ((((w.setCell ⟨g, i * 4, none⟩ (.int .i64 r.st)).setCell ⟨g, i * 4 + 1, none⟩ (.int .i64 r.tk)).setCell ⟨g, i * 4 + 2, none⟩ (.int .i64 r.ps)).setCell ⟨g, i * 4 + 3, none⟩ (.int .i64 r.pk)) b g c hb n ⟨q.now, q.rows.set i r, q.h⟩ := by
  have hl := Q.rowsN
  have Q1 := Q.setRow hi 0 (by decide) (.int .i64 r.st) ⟨r.st, (q.rows.getD i row0).tk, (q.rows.getD i row0).ps, (q.rows.getD i row0).pk⟩ rfl
  have Q2 := Q1.setRow hi 1 (by decide) (.int .i64 r.tk) ⟨r.st, r.tk, (q.rows.getD i row0).ps, (q.rows.getD i row0).pk⟩ (by rw [getD_set_same' _ _ _ (by omega)]; rfl)
  have Q3 := Q2.setRow hi 2 (by decide) (.int .i64 r.ps) ⟨r.st, r.tk, r.ps, (q.rows.getD i row0).pk⟩ (by simp only; rw [List.set_set, getD_set_same' _ _ _ (by omega)]; rfl)
  have Q4 := Q3.setRow hi 3 (by decide) (.int .i64 r.pk) r (by simp only; rw [List.set_set, List.set_set, getD_set_same' _ _ _ (by omega)]; rfl)
  simp only [List.set_set] at Q4
  exact Q4
theorem Qx.acts {TK : Nat → Prop} {w0 : FrQ} {w w' : World} {b g c hb gk gp ck cp n : Nat} {iv : Value} {q : QV} {h' : HV} (Q1 : Qw w w0.base b g c hb gk gp ck cp n iv q) (QT : ∀ k, (TK k ∨ w0.K k) → k < w.heap.size ∧ k ≠ b ∧ k ≠ g ∧ ¬ HS hb gk gp iv k) (Q2 : Kp w0 w) (A : Acts w w' hb gk gp w0.base n ck cp iv h') (s : Sd n h') :
    Qx TK w0 w' b g c hb n ⟨q.now, q.rows, h'⟩ ∧ ∀ k, TK k → w'.heap[k]? = w.heap[k]? := by
  obtain ⟨⟨iv', h1, h0⟩, h2⟩ := Q1.acts A s
  refine ⟨⟨⟨gk, gp, ck, cp, iv', h1, fun k hk => ?_⟩, Q2.chg A.ch (fun k e => ⟨?_, fun hk => (QT k (.inr hk)).2.2.2 e⟩)⟩, fun k hk => A.ch.block k (QT k (.inl hk)).1 (QT k (.inl hk)).2.2.2⟩
  rotate_left
  · obtain ⟨l1, l2, l3⟩ := Q1.lh
    rcases e with e | e | e | e
    · rw [e]; exact l1
    · rw [e]; exact l2
    · rw [e]; exact l3
    · exact own_base Q1.hp.io k e
  obtain ⟨t1, t2, t3, t4⟩ := QT k hk
  refine ⟨Nat.lt_of_lt_of_le t1 h2.size, t2, t3, ?_⟩
  rintro (e | e | e | e)
  · exact t4 (.inl e)
  · exact t4 (.inr (.inl e))
  · exact t4 (.inr (.inr (.inl e)))
  · rcases h0 with h0 | ⟨k', h0, h4⟩
    · exact t4 (.inr (.inr (.inr (h0 ▸ e))))
    · rw [e] at h0
      cases h0
      omega
theorem Qx.put {TK : Nat → Prop} {w0 : FrQ} {w : World} {b g c hb n : Nat} {q : QV} (Q : Qx TK w0 w b g c hb n q) (hn : n ≤ 4096) (x : Nat) (z key : Int) (hz : z = (x : Int)) (hx : x < n) (hh : ¬ hasV q.h x) :
    Calls Tryz.prog 54 #[.pointer (some ⟨hb, 0, none⟩), .int .i64 z, .int .i64 key] w fun e w' => e = .returned (.int .i64 0) ∧ Qx TK w0 w' b g c hb n ⟨q.now, q.rows, putV q.h x key⟩ ∧ ∀ k, TK k → w'.heap[k]? = w.heap[k]? := by
  subst hz
  obtain ⟨⟨gk, gp, ck, cp, iv, Q1, QT⟩, Q2⟩ := Q
  refine (hputOk Q1.hp (by omega) hn x key hx (InR.of_bij Q1.sd.bij) (ids_lt Q1.sd x hx hh) (pl_no Q1.sd x hx hh) Q2.size).mono ?_
  rintro e w' ⟨rfl, hA⟩
  exact ⟨rfl, Qx.acts Q1 QT Q2 hA (put_ok Q1.sd x key hx hh).sd⟩
theorem Qx.remove {TK : Nat → Prop} {w0 : FrQ} {w : World} {b g c hb n : Nat} {q : QV} (Q : Qx TK w0 w b g c hb n q) (hn : n ≤ 4096) (x : Nat) (z : Int) (hz : z = (x : Int)) (hh : hasV q.h x) :
    Calls Tryz.prog 63 #[.pointer (some ⟨hb, 0, none⟩), .int .i64 z] w fun e w' => e = .returned (.int .i64 0) ∧ Qx TK w0 w' b g c hb n ⟨q.now, q.rows, outV q.h (placeV q.h x)⟩ ∧ ∀ k, TK k → w'.heap[k]? = w.heap[k]? := by
  subst hz
  obtain ⟨⟨gk, gp, ck, cp, iv, Q1, QT⟩, Q2⟩ := Q
  refine (hremoveOk Q1.hp Q1.sd hn x hh).mono ?_
  rintro e w' ⟨rfl, hA⟩
  exact ⟨rfl, Qx.acts Q1 QT Q2 hA (out_ok Q1.sd _ x (place_ids Q1.sd x hh)).sd⟩
theorem Qx.pop {TK : Nat → Prop} {w0 : FrQ} {w : World} {b g c hb n : Nat} {q : QV} (Q : Qx TK w0 w b g c hb n q) (hn : n ≤ 4096) (x : Nat) (hx : q.h.ids[0]? = some x) :
    Calls Tryz.prog 55 #[.pointer (some ⟨hb, 0, none⟩)] w fun e w' => e = .returned (.tuple #[.int .i64 x, .int .i64 (q.h.ks.getD x 0), .bool true]) ∧ Qx TK w0 w' b g c hb n ⟨q.now, q.rows, outV q.h 0⟩ ∧ ∀ k, TK k → w'.heap[k]? = w.heap[k]? := by
  obtain ⟨⟨gk, gp, ck, cp, iv, Q1, QT⟩, Q2⟩ := Q
  refine (hpopOk Q1.hp Q1.sd hn x hx).mono ?_
  rintro e w' ⟨rfl, hA⟩
  exact ⟨rfl, Qx.acts Q1 QT Q2 hA (out_ok Q1.sd _ x hx).sd⟩
theorem Qx.popNo {TK : Nat → Prop} {w0 : FrQ} {w : World} {b g c hb n : Nat} {q : QV} (Q : Qx TK w0 w b g c hb n q) (hn : 0 < n) (h0 : q.h.ids.length = 0) :
    Calls Tryz.prog 55 #[.pointer (some ⟨hb, 0, none⟩)] w fun e w' => e = .returned (.tuple #[.int .i64 0, .int .i64 0, .bool false]) ∧ w = w' := by
  obtain ⟨⟨gk, gp, ck, cp, iv, Q1, QT⟩, Q2⟩ := Q
  exact hpopNo Q1.hp hn h0
end Go.Proofs.YtabdipfpfbdghaaGreat
