/- Worlds that part in some blocks alone. -/
import Derived.Test.YtopikpjagjnbhaaRegionJ
import Derived.ArgAppend
import Derived.Deep.AppendLies
namespace Go.Proofs.Ytopikpjagjnbhaa
open Go.RowKit
/-- w' is w, but for the blocks of S and new ones. -/
structure Chg (S : Nat → Prop) (w w' : World) : Prop where
  os : w'.os = w.os
  tape : w'.tape = w.tape
  output : w'.output = w.output
  size : w.heap.size ≤ w'.heap.size
  block : ∀ k, k < w.heap.size → ¬ S k → w'.heap[k]? = w.heap[k]?
theorem Chg.refl (S : Nat → Prop) (w : World) : Chg S w w := ⟨rfl, rfl, rfl, Nat.le_refl _, fun _ _ _ => rfl⟩
theorem Chg.trans {S : Nat → Prop} {w w1 w2 : World} (h : Chg S w w1) (k : Chg S w1 w2) : Chg S w w2 :=
  ⟨k.os.trans h.os, k.tape.trans h.tape, k.output.trans h.output, Nat.le_trans h.size k.size, fun i hi hs => (k.block i (Nat.lt_of_lt_of_le hi h.size) hs).trans (h.block i hi hs)⟩
theorem Chg.mono {S S' : Nat → Prop} {w w1 : World} (h : Chg S w w1) (hs : ∀ k, k < w.heap.size → S k → S' k) : Chg S' w w1 :=
  ⟨h.os, h.tape, h.output, h.size, fun i hi hn => h.block i hi (fun h' => hn (hs i hi h'))⟩
theorem Chg.of_below {S : Nat → Prop} {w w1 : World} (h : Below w.heap.size w w1) : Chg S w w1 := ⟨h.os, h.tape, h.output, h.size, fun i hi _ => h.block i hi⟩
theorem Chg.of_grown {S : Nat → Prop} {w w1 : World} {row : Option Nat} (h : w.grownBy w1 row) (hs : ∀ k, row = some k → S k) : Chg S w w1 :=
  ⟨h.os, h.tape, h.output, h.size, fun i hi hn => h.block i hi (fun e => hn (hs i e.symm))⟩
theorem Chg.drewN {S : Nat → Prop} {w w1 : World} (h : Chg S w w1) (n : Nat) : Chg S w (w1.drewN n) := ⟨h.os, h.tape, h.output, h.size, h.block⟩
theorem Chg.alloc {S : Nat → Prop} {w w1 : World} (h : Chg S w w1) (o : Obj) : Chg S w (w1.alloc o) := h.trans (.of_below (below_al (Below.refl _ _) o))
theorem Chg.setCell {S : Nat → Prop} {w w1 : World} (h : Chg S w w1) (b o : Nat) (v : Value) (hs : S b) : Chg S w (w1.setCell ⟨b, o, none⟩ v) :=
  h.trans ⟨rfl, rfl, rfl, by simp, fun k _ hn => heap_setCell_other w1 ⟨b, o, none⟩ k v (fun e => hn (by have e2 : k = b := e; rw [e2]; exact hs))⟩
theorem Chg.toBelow {S : Nat → Prop} {w0 w w1 : World} {B : Nat} (h : Chg S w w1) (hb : Below B w0 w) (hB : B ≤ w.heap.size) (hs : ∀ k, S k → B ≤ k) : Below B w0 w1 :=
  hb.trans ⟨h.os, h.tape, h.output, h.size, fun i hi => h.block i (by omega) (fun h' => by have := hs i h'; omega)⟩
theorem Chg.cell {S : Nat → Prop} {w w1 : World} (h : Chg S w w1) {a : Addr} {v : Value} (hc : w.cell? a = some v) (hs : ¬ S a.block) : w1.cell? a = some v :=
  (World.cell?_of_block (h.block a.block (World.block_lt_of_cell? w a hc) hs)).trans hc
theorem Chg.rds {S : Nat → Prop} {w w1 : World} (h : Chg S w w1) {sz n c : Nat} {A : Option Addr} {cs : List Value} (hr : Rds w sz A n c cs) (hs : ∀ ad, A = some ad → ¬ S ad.block) : Rds w1 sz A n c cs :=
  ⟨hr.len, hr.le, hr.max, hr.nil, fun ad e j u hj => by
    have hbl : (ad.add j).block = ad.block := by unfold Addr.add; split <;> rfl
    exact h.cell (hr.cell ad e j u hj) (by rw [hbl]; exact hs ad e)⟩
theorem Chg.own {S : Nat → Prop} {w w1 : World} (h : Chg S w w1) {base : Nat} {e : TypeId} {size n : Nat} {v : Value} {xs : List Value} (ho : w.ownsRow base e size v n xs) (hs : ∀ k, v.ownBlock = some k → ¬ S k) : w1.ownsRow base e size v n xs := by
  refine ⟨ho.1, ?_⟩
  have hlt := ho.lt
  rcases ho.2 with h2 | ⟨g, cap, cur, rfl, hg, hb, r⟩
  · exact .inl h2
  · exact .inr ⟨g, cap, cur, rfl, hg, (h.block g (hlt g rfl).2 (hs g rfl)).trans hb, r⟩
/-- A cell of the call's own, that may be written. -/
structure Box (w : World) (b o : Nat) (v : Value) : Prop where
  cell : w.cell? ⟨b, o, none⟩ = some v
  free : w.frozen? ⟨b, o, none⟩ = false
theorem Box.lt {w : World} {b o : Nat} {v : Value} (h : Box w b o v) : b < w.heap.size := World.block_lt_of_cell? w _ h.cell
theorem Box.keep {S : Nat → Prop} {w w1 : World} {b o : Nat} {v : Value} (h : Box w b o v) (hc : Chg S w w1) (hs : ¬ S b) : Box w1 b o v :=
  ⟨hc.cell h.cell hs, (World.frozen?_of_block (a := ⟨b, o, none⟩) (hc.block b h.lt hs)).trans h.free⟩
theorem Box.below {w w1 : World} {b o : Nat} {v : Value} (h : Box w b o v) (hb : Below w.heap.size w w1) : Box w1 b o v :=
  h.keep (S := fun _ => False) (.of_below hb) (fun h => h)
theorem Box.set {w : World} {b o : Nat} {v : Value} (h : Box w b o v) (u : Value) : Box (w.setCell ⟨b, o, none⟩ u) b o u := by
  have h1 := h.cell
  have h2 := h.free
  constructor
  · go_simp
  · go_simp
theorem Box.drew {w : World} {b o : Nat} {v : Value} (h : Box w b o v) (n : Nat) : Box (w.drewN n) b o v := ⟨h.cell, h.free⟩
theorem Box.new (w : World) (v : Value) (e : TypeId) : Box (w.alloc (.cells #[v] e)) w.heap.size 0 v := by
  constructor
  · go_simp
  · go_simp
section
variable {P : Program} {ops : Array Oper} {rest : List Oper} {o : Oper} {a : Act} {Q : Exit → Act → World → Prop}
/-- append(v[:n:n], y), y of one cell: always a new row. -/
theorem apg {W : World} (hgd : o.guard = none) (s x : Operand) (t e : TypeId) (z : Value) (bytes : Nat)
    (ho : o.op = .call { callee := .builtin .append, args := #[s, x], argTypes := #[t, t] })
    (ht : P.underlying t = some (.slice e)) (hinfo : (P.info? e).map (fun i => (i.zero, i.size, i.bytes)) = some (some z, 1, bytes)) (hz : z.cells.size = 1) (hb0 : 0 < bytes)
    (A : Option Addr) (n c : Nat) (xs : List Value) (y : Value) (hs : a.eval s = .slice A n n) (hx : a.eval x = .slice (some ⟨W.heap.size, 0, none⟩) 1 1) (h1 : y.oneCell' = true)
    (hr : Rds W 1 A n c xs) (hl : (n + 1) * bytes ≤ 140737488355328)
    (h : ∀ v1 w1, w1.ownsRow W.heap.size e 1 v1 (n + 1) (xs ++ [y]) → Below W.heap.size W w1 → wpList P ops Q rest (a.put o.dst v1) w1) :
    wpList P ops Q (o :: rest) a (W.alloc (.cells #[y] e)) := by
  obtain ⟨i0, hi, hzz⟩ := Option.map_eq_some_iff.1 hinfo
  simp only [Prod.mk.injEq] at hzz
  obtain ⟨hz0, hz1, hz2⟩ := hzz
  have hlen : n + 1 ≤ 140737488355328 := Nat.le_trans (Nat.le_mul_of_pos_right _ hb0) hl
  have hal : Below W.heap.size W (W.alloc (.cells #[y] e)) := below_al (Below.refl _ _) _
  have hr2 := hr.below hal
  refine wpList_append_grows (W.alloc (.cells #[y] e)) hgd s x t ho e i0 z 1 bytes ht hi hz0 hz1 hz2 hz (by omega) A n n xs hs (fun h => by have := hr.nil h; have := hr.le; omega) hr2.len hr2.cell ⟨W.heap.size, 0, none⟩ 1 1 [y] hx rfl
    (cell_one_new _ _ _) (by simpa using h1) (by omega) (by unfold maxLen; omega) hl ?_
  intro v1 w1 hown hg
  exact h v1 w1 (own_mono hown (by simp)) (hal.grown hg (by simp) (fun k hk => by cases hk))
end
end Go.Proofs.Ytopikpjagjnbhaa
