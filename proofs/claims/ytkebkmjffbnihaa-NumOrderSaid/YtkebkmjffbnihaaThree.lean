/- Three boxes that one region makes, each stored once. -/
import Derived.Test.YtkebkmjffbnihaaChg
namespace Go.Proofs.Ytkebkmjffbnihaa
open Go.RowKit
abbrev TB : TypeId := 35
theorem below_set2 {B : Nat} {w W : World} (h : Below B w W) (b o : Nat) (v : Value) (hb : B ≤ b) : Below B w (W.setCell ⟨b, o, none⟩ v) :=
  ⟨h.os, h.tape, h.output, by simpa using h.size, fun k hk => (heap_setCell_other W ⟨b, o, none⟩ k v (fun e => by have e2 : k = b := e; omega)).trans (h.block k hk)⟩
/-- One box: behind its store it holds cs. -/
def Box2 (w W : World) (a d : Option Value) (cs : Array Value) : Prop := ∀ v, a = some v → ∃ (k : Nat) (x y : Value), v = .pointer (some ⟨k, 0, none⟩) ∧ w.heap.size ≤ k ∧ W.heap[k]? = some (.cells #[x, y] TB (0, 0)) ∧ (d.isSome = true → #[x, y] = cs)
def Apart2 (a b : Option Value) : Prop := ∀ v u, a = some v → b = some u → v ≠ u
structure ThreeG (w : World) (p q r : Array Value) (a b c d e f : Option Value) (W : World) : Prop where
  be : Below w.heap.size w W
  la : Box2 w W a d p
  lb : Box2 w W b e q
  lc : Box2 w W c f r
  ab : Apart2 a b
  bc : Apart2 b c
  ca : Apart2 c a
  da : d.isSome = true → a.isSome = true
  eb : e.isSome = true → b.isSome = true
  fc : f.isSome = true → c.isSome = true
theorem ThreeG.rot {w : World} {p q r : Array Value} {a b c d e f : Option Value} {W : World} (h : ThreeG w p q r a b c d e f W) : ThreeG w q r p b c a e f d W :=
  ⟨h.be, h.lb, h.lc, h.la, h.bc, h.ca, h.ab, h.eb, h.fc, h.da⟩
theorem blk_lt {W : World} {k : Nat} {o : Obj} (h : W.heap[k]? = some o) : k < W.heap.size := (Array.getElem?_eq_some_iff.1 h).1
theorem Box2.stay {w W W' : World} {a d : Option Value} {cs : Array Value} (h : Box2 w W a d cs) (hb : Below W.heap.size W W') : Box2 w W' a d cs := fun v e => by
  obtain ⟨k, x, y, h1, h2, h3, h4⟩ := h v e
  exact ⟨k, x, y, h1, h2, (hb.block k (blk_lt h3)).trans h3, h4⟩
theorem ThreeG.stay {w : World} {p q r : Array Value} {a b c d e f : Option Value} {W W' : World} (h : ThreeG w p q r a b c d e f W) (hb : Below W.heap.size W W') : ThreeG w p q r a b c d e f W' :=
  ⟨below_then h.be h.be.size hb, h.la.stay hb, h.lb.stay hb, h.lc.stay hb, h.ab, h.bc, h.ca, h.da, h.eb, h.fc⟩
theorem Box2.fresh {w W : World} {b e : Option Value} {cs : Array Value} (h : Box2 w W b e cs) : Apart2 (some (.pointer (some ⟨W.heap.size, 0, none⟩))) b := by
  intro v u hv hu he
  cases hv
  obtain ⟨k, x, y, h1, _, h3, _⟩ := h u hu
  rw [h1] at he
  cases he
  have := blk_lt h3
  omega
theorem ThreeG.mk1 {w : World} {p q r : Array Value} {b c d e f : Option Value} {W : World} (h : ThreeG w p q r none b c d e f W) (x y : Value) : ThreeG w p q r (some (.pointer (some ⟨W.heap.size, 0, none⟩))) b c d e f (W.alloc (.cells #[x, y] TB)) := by
  have h' := h.stay (below_al (Below.refl _ _) (.cells #[x, y] TB))
  refine ⟨h'.be, ?_, h'.lb, h'.lc, h.lb.fresh, h.bc, fun v u hv hu e => h.lc.fresh u v hu hv e.symm, fun _ => rfl, h.eb, h.fc⟩
  intro v e
  cases e
  exact ⟨_, x, y, rfl, h.be.size, heap_alloc_new W _, fun hc => by have := h.da hc; cases this⟩
theorem ThreeG.st1 {w : World} {p q r : Array Value} {a b c d e f : Option Value} {W : World} {k : Nat} (h : ThreeG w p q r a b c d e f W) (ha : a = some (.pointer (some ⟨k, 0, none⟩))) {x y : Value} (hp : #[x, y] = p) (v : Value) :
    ThreeG w p q r a b c (some v) e f ((W.setCell ⟨k, 0, none⟩ x).setCell ⟨k, 1, none⟩ y) := by
  obtain ⟨k', x0, y0, h1, h2, h3, _⟩ := h.la _ ha
  cases h1
  have hch : Chg (fun z => z = k) W ((W.setCell ⟨k, 0, none⟩ x).setCell ⟨k, 1, none⟩ y) := ((Chg.refl (fun z => z = k) W).setCell k 0 _ rfl).setCell k 1 _ rfl
  have oth : ∀ (b e : Option Value) (cs : Array Value), Box2 w W b e cs → Apart2 a b → Box2 w ((W.setCell ⟨k, 0, none⟩ x).setCell ⟨k, 1, none⟩ y) b e cs := by
    intro b e cs hb hab u hu
    obtain ⟨k2, x2, y2, g1, g2, g3, g4⟩ := hb u hu
    have hne : k2 ≠ k := by intro e2; exact hab _ _ ha hu (by rw [g1, e2])
    exact ⟨k2, x2, y2, g1, g2, (hch.block k2 (blk_lt g3) hne).trans g3, g4⟩
  refine ⟨below_set2 (below_set2 h.be k 0 _ h2) k 1 _ h2, ?_, oth _ _ _ h.lb h.ab, oth _ _ _ h.lc (fun v u hv hu e => h.ca u v hu hv e.symm), h.ab, h.bc, h.ca, fun _ => by rw [ha]; rfl, h.eb, h.fc⟩
  intro u hu
  rw [ha] at hu
  cases hu
  have g1 := heap_setCell_same W k 0 #[x0, y0] TB x h3
  have g2 := heap_setCell_same (W.setCell ⟨k, 0, none⟩ x) k 1 _ TB y g1
  exact ⟨k, x, y, rfl, h2, g2, fun _ => hp⟩
end Go.Proofs.Ytkebkmjffbnihaa
