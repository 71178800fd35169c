/- append(append([]T{}, x...), y): a word for a region that draws its order. -/
import Derived.Test.YtabdipfpfbdghaaGreatZRegion
import Derived.Test.YtabdipfpfbdghaaGreatZChg
namespace Go.Proofs.YtabdipfpfbdghaaGreat
open Go.RowKit
/-- x: the empty row; a: with the first ones; l: the literal behind; d: with all. -/
structure Ch2 (T : TypeId) (sz B n m : Nat) (cs one : List Value) (x a l d : Option Value) (W : World) : Prop where
  hB : B ≤ W.heap.size
  hx : ∀ u, x = some u → a = none → W.ownsRow B T sz u 0 []
  ha : ∀ u, a = some u → d = none → W.ownsRow B T sz u n cs
  hl : ∀ u, l = some u → d = none → ∃ g, u = .slice (some ⟨g, 0, none⟩) 1 1 ∧ g < W.heap.size ∧ Rds W sz (some ⟨g, 0, none⟩) 1 1 one ∧ (∀ v, x = some v → a = none → v.ownBlock ≠ some g) ∧ (∀ v, a = some v → v.ownBlock ≠ some g)
  hd : ∀ u, d = some u → W.ownsRow B T sz u (n + m) (cs ++ one)
theorem Ch2.none_ {T : TypeId} {sz B n m : Nat} {cs one : List Value} {W : World} (h : B ≤ W.heap.size) : Ch2 T sz B n m cs one none none none none W :=
  ⟨h, (fun u e => by cases e), (fun u e => by cases e), (fun u e => by cases e), (fun u e => by cases e)⟩
theorem Ch2.below {T : TypeId} {sz B n m : Nat} {cs one : List Value} {x a l d : Option Value} {W W' : World} (h : Ch2 T sz B n m cs one x a l d W) (hb : Below W.heap.size W W') : Ch2 T sz B n m cs one x a l d W' :=
  ⟨Nat.le_trans h.hB hb.size, fun u e1 e2 => own_below (h.hx u e1 e2) hb, fun u e1 e2 => own_below (h.ha u e1 e2) hb,
    fun u e1 e2 => by obtain ⟨g, h1, h2, h3, h4, h5⟩ := h.hl u e1 e2; exact ⟨g, h1, Nat.lt_of_lt_of_le h2 hb.size, h3.below hb, h4, h5⟩, fun u e1 => own_below (h.hd u e1) hb⟩
theorem Ch2.x_ {T : TypeId} {sz B n m : Nat} {cs one : List Value} {l : Option Value} {W : World} (h : Ch2 T sz B n m cs one none none l none W) : Ch2 T sz B n m cs one (some (.slice (some ⟨W.heap.size, 0, none⟩) 0 0)) none l none (W.alloc (.cells #[] T)) := by
  have h' := h.below (below_al (Below.refl _ _) (.cells #[] T))
  refine ⟨h'.hB, fun u e _ => ?_, h'.ha, fun u e1 e2 => ?_, h'.hd⟩
  · cases e
    exact World.ownsRow_made W #[] 0 h.hB (Nat.zero_le _) (by simp)
  · obtain ⟨g, h1, h2, h3, h4, h5⟩ := h.hl u e1 e2
    obtain ⟨g', k1, k2, k3, _, _⟩ := h'.hl u e1 e2
    rw [h1] at k1
    cases k1
    refine ⟨g, h1, k2, k3, fun v e _ => ?_, fun v e => by cases e⟩
    cases e
    intro e2
    have : W.heap.size = g := by simpa [Value.ownBlock] using e2
    omega
theorem Ch2.l_ {T : TypeId} {sz B n m : Nat} {cs one : List Value} {x a : Option Value} {W : World} (h : Ch2 T sz B n m cs one x a none none W) (ho : one.length = 1 * sz) : Ch2 T sz B n m cs one x a (some (.slice (some ⟨W.heap.size, 0, none⟩) 1 1)) none (W.alloc (.cells one.toArray T)) := by
  have h' := h.below (below_al (Below.refl _ _) (.cells one.toArray T))
  refine ⟨h'.hB, h'.hx, h'.ha, fun u e1 e2 => ?_, h'.hd⟩
  cases e1
  refine ⟨W.heap.size, rfl, by simp, rds_lit W T sz 1 one ho (by decide), fun v e e3 e4 => ?_, fun v e e4 => ?_⟩
  · have := ((h.hx v e e3).lt _ e4).2
    omega
  · have := ((h.ha v e rfl).lt _ e4).2
    omega
theorem Ch2.a_ {T : TypeId} {sz B n m : Nat} {cs one : List Value} {u v1 : Value} {l : Option Value} {W w1 : World} (h : Ch2 T sz B n m cs one (some u) none l none W) (p1 : w1.ownsRow B T sz v1 n cs) (p3 : W.grownBy w1 u.ownBlock)
    (p4 : v1.ownBlock = u.ownBlock ∨ ∃ k, v1.ownBlock = some k ∧ W.heap.size ≤ k) : Ch2 T sz B n m cs one (some u) (some v1) l none w1 := by
  have hc : Chg (fun k => u.ownBlock = some k) W w1 := Chg.of_grown p3 (fun k e => e)
  refine ⟨Nat.le_trans h.hB hc.size, (fun v e e2 => by cases e2), fun v e _ => by cases e; exact p1, fun v e1 e2 => ?_, fun v e => by cases e⟩
  obtain ⟨g, h1, h2, h3, h4, h5⟩ := h.hl v e1 e2
  have h6 := h4 u rfl rfl
  refine ⟨g, h1, Nat.lt_of_lt_of_le h2 hc.size, hc.rds h3 (fun ad e => by cases e; exact h6), (fun v e e2 => by cases e2), fun v e => ?_⟩
  cases e
  rcases p4 with p4 | ⟨k, p4, p5⟩
  · rw [p4]; exact h6
  · rw [p4]; intro e; cases e; omega
theorem Ch2.d_ {T : TypeId} {sz B n m : Nat} {cs one : List Value} {u v1 : Value} {x l : Option Value} {W w1 : World} (h : Ch2 T sz B n m cs one x (some u) l none W) (hs : W.heap.size ≤ w1.heap.size) (p1 : w1.ownsRow B T sz v1 (n + m) (cs ++ one)) : Ch2 T sz B n m cs one x (some u) l (some v1) w1 :=
  ⟨Nat.le_trans h.hB hs, (fun v _ e2 => by cases e2), (fun v _ e2 => by cases e2), (fun v _ e2 => by cases e2), fun v e => by cases e; exact p1⟩
/-- Where another block is written. -/
theorem Ch2.keep {T : TypeId} {sz B n m : Nat} {cs one : List Value} {x a l : Option Value} {d : Value} {S : Nat → Prop} {W W' : World} (h : Ch2 T sz B n m cs one x a l (some d) W) (hc : Chg S W W') (hs : ∀ k, S k → k < B) : Ch2 T sz B n m cs one x a l (some d) W' :=
  ⟨Nat.le_trans h.hB hc.size, (fun u e1 e2 => by
    rcases a with _ | a
    · have := h.hx u e1 e2
      exact hc.own this (fun k hk e => by have := hs k e; have := own_base (h.hx u e1 e2) k hk; omega)
    · cases e2), (fun u e1 e2 => by cases e2), (fun u e1 e2 => by cases e2), fun u e1 => hc.own (h.hd u e1) (fun k hk e => by have := hs k e; have := own_base (h.hd u e1) k hk; omega)⟩
end Go.Proofs.YtabdipfpfbdghaaGreat
