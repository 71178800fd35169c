/- Package code: what the step of Ints does. -/
import Derived.Test.YtdnddoiemaifjaaSrcSteps
namespace Go.Proofs.Ytdnddoiemaifjaa
open Go.RowKit
variable {B : Nat}
theorem info_int : (Try.prog.info? 3).map (fun i => (i.zero, i.size, i.bytes)) = some (some (.int .i64 0), 1, 8) := by kernel_rfl
section
variable {ops : Array Oper} {rest : List Oper} {o : Oper} {a : Act} {Q : Exit → Act → World → Prop}
/-- append(v, y), ints, v's block at base or above it. -/
theorem api {W : World} (base : Nat) (hgd : o.guard = none) (s x : Operand)
    (ho : o.op = .call { callee := .builtin .append, args := #[s, x], argTypes := #[73, 73] })
    (v : Value) (ys : List Int) (y : Int) (hs : a.eval s = v) (hx : a.eval x = .slice (some ⟨W.heap.size, 0, none⟩) 1 1)
    (HO : W.ownsRow base 3 1 v ys.length (nums .i64 ys)) (hbase : base ≤ W.heap.size) (hl : ys.length ≤ 1000000000)
    (h : ∀ v1 w1, w1.ownsRow base 3 1 v1 (ys ++ [y]).length (nums .i64 (ys ++ [y])) → Below base W w1 → wpList Try.prog ops Q rest (a.put o.dst v1) w1) :
    wpList Try.prog ops Q (o :: rest) a (W.alloc (.cells #[.int .i64 y] 3)) :=
  ap1 (w0 := W) base hgd s x 73 3 _ 8 ho Try.underlying73 info_int rfl (by decide) v _ _ _ hs hx rfl HO (Below.refl _ _) hbase (by omega) fun v1 w1 h1 h2 _ _ => h v1 w1 (own_nums_snoc h1 rfl rfl) h2
end
theorem Chg.of_belowB {base : Nat} {w w1 : World} (h : Below base w w1) : Chg (fun k => base ≤ k) w w1 := ⟨h.os, h.tape, h.output, h.size, fun i _ hn => h.block i (by omega)⟩
theorem Chg.thenB {S : Nat → Prop} {w w1 w2 : World} (h : Chg S w w1) (k : Below w.heap.size w1 w2) : Chg S w w2 :=
  ⟨k.os.trans h.os, k.tape.trans h.tape, k.output.trans h.output, Nat.le_trans h.size k.size, fun i hi hs => (k.block i hi).trans (h.block i hi hs)⟩
theorem Src.keep {S : Nat → Prop} {w w1 : World} {b : Nat} {bs : List Int} {er : Int} (h : Src B w b bs er) (hc : Chg S w w1) (hb : ¬ S b) (hS : ∀ k, k < B → ¬ S k) : Src B w1 b bs er := by
  obtain ⟨A, n, c, h1, h2, h3⟩ := h.row
  exact ⟨h.made.keep hc hb, ⟨A, n, c, h1.keep hc hb, hc.rds h2 (fun ad e => hS _ (h3 ad e).2), h3⟩, h.err.keep hc hb⟩
/-- What the step of Ints leaves. -/
def GotL (B : Nat) (w : World) (b : Nat) (er : Int) (r : Except Int (List Int × List Int)) (e : Ending) (w' : World) : Prop :=
  match r with
  | .error x => e = thrown x ∧ Chg (fun k => k = b) w w' ∧ ∃ bs, Src B w' b bs er
  | .ok (l, rest) => ∃ A n c, e = .returned (.slice A n c) ∧ Rds w' 1 A n c (nums .i64 l) ∧ (∀ ad, A = some ad → w.heap.size ≤ ad.block) ∧ Chg (fun k => k = b) w w' ∧ Src B w' b rest er
theorem GotL.error_ {w w' : World} {b : Nat} {er x : Int} {r : Except Int (List Int × List Int)} (hr : r = .error x) {bs : List Int} (hc : Chg (fun k => k = b) w w') (hs : Src B w' b bs er) : GotL B w b er r (thrown x) w' := by
  subst hr; exact ⟨rfl, hc, bs, hs⟩
theorem own_addr {w : World} {base : Nat} {e : TypeId} {size n m c : Nat} {A : Option Addr} {xs : List Value} (h : w.ownsRow base e size (.slice A m c) n xs) : ∀ ad, A = some ad → base ≤ ad.block := by
  rintro ad rfl
  rcases h.2 with ⟨h0, _⟩ | ⟨g, cap, cur, hv, hg, _⟩
  · cases h0
  · cases hv; exact hg
end Go.Proofs.Ytdnddoiemaifjaa
