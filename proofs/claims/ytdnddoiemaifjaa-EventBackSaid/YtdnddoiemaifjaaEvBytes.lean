/- An event's bytes: plain. -/
import Derived.Test.YtdnddoiemaifjaaEvGood
import Derived.Test.YtdnddoiemaifjaaCodePlain
namespace Go.Proofs.Ytdnddoiemaifjaa
open Go.RowKit
/-- What Bytes leaves. -/
def Byt (w : World) (bs : List Int) (e : Ending) (w' : World) : Prop := ∃ A n c, e = .returned (.slice A n c) ∧ Below w.heap.size w w' ∧ Rds w' 1 A n c (nums .u8 bs)
/-- What a kind tells, in a block. -/
structure HasK (w : World) (b : Nat) (k : Int) : Prop where
  c0 : w.cell? ⟨b, 0, none⟩ = some (.bool (tA k))
  c1 : w.cell? ⟨b, 1, none⟩ = some (.bool (tT k))
  c2 : w.cell? ⟨b, 2, none⟩ = some (.bool (tV k))
  c3 : w.cell? ⟨b, 3, none⟩ = some (.bool (tC k))
theorem HasK.keep {S : Nat → Prop} {w w1 : World} {b : Nat} {k : Int} (h : HasK w b k) (hc : Chg S w w1) (hs : ¬ S b) : HasK w1 b k := ⟨hc.cell h.c0 hs, hc.cell h.c1 hs, hc.cell h.c2 hs, hc.cell h.c3 hs⟩
theorem HasK.below {w w1 : World} {b : Nat} {k : Int} (h : HasK w b k) (hc : Below w.heap.size w w1) : HasK w1 b k := h.keep (S := fun _ => False) (.of_below hc) (fun h => h)
theorem HasK.new (w : World) (k : Int) (e : TypeId) : HasK (w.alloc (.cells #[.bool (tA k), .bool (tT k), .bool (tV k), .bool (tC k)] e)) w.heap.size k := by
  constructor <;> go_simp
def evRegs (e : Ev) : List Int := [e.r0, e.r1, e.r2, e.r3, e.r4, e.r5, e.r6, e.r7]
/-- The bytes of an event that may be. -/
def bytesEv (e : Ev) : List Int := [e.kind] ++ enc e.act.toNat ++ (if tT e.kind then enc e.thread.toNat else []) ++ (if tV e.kind then enc e.value.toNat else []) ++
  (if tC e.kind then enc e.program.toNat ++ enc e.pc.toNat ++ enc e.depth.toNat ++ encs (evRegs e) else [])
theorem inB_told {n a b : Int} (h : inB true n a b = true) : a ≤ n ∧ n ≤ b := by
  simpa [inB] using h
theorem inB_not {n a b : Int} (h : inB false n a b = true) : n = 0 := by
  simpa [inB] using h
/-- The parts of an event that may be are not below 0. -/
theorem good_parts {e : Ev} (h : goodB e = true) : 1 ≤ e.kind ∧ e.kind ≤ 7 ∧ 0 ≤ e.act ∧ e.act ≤ 1099511627776 ∧ 0 ≤ e.thread ∧ e.thread ≤ 1099511627776 ∧ 0 ≤ e.value ∧ e.value ≤ 1000 ∧ (tC e.kind = true → 0 ≤ e.program ∧ e.program ≤ 7 ∧ 0 ≤ e.pc ∧ e.pc ≤ 64 ∧ 0 ≤ e.depth ∧ e.depth ≤ 8) := by
  unfold goodB at h
  simp only [Bool.and_eq_true] at h
  obtain ⟨hk, ha, ht, hv, hc⟩ := h
  have k1 : 1 ≤ e.kind ∧ e.kind ≤ 7 := by
    simp only [tK, Bool.or_eq_true, beq_iff_eq] at hk
    omega
  have a1 : 0 ≤ e.act ∧ e.act ≤ 1099511627776 := by
    cases h1 : tA e.kind
    · rw [h1] at ha; have := inB_not ha; omega
    · rw [h1] at ha; have := inB_told ha; omega
  have t1 : 0 ≤ e.thread ∧ e.thread ≤ 1099511627776 := by
    cases h1 : tT e.kind
    · rw [h1] at ht; have := inB_not ht; omega
    · rw [h1] at ht; have := inB_told ht; omega
  have v1 : 0 ≤ e.value ∧ e.value ≤ 1000 := by
    cases h1 : tV e.kind
    · rw [h1] at hv; have := inB_not hv; omega
    · rw [h1] at hv; have := inB_told hv; omega
  refine ⟨k1.1, k1.2, a1.1, a1.2, t1.1, t1.2, v1.1, v1.2, fun h1 => ?_⟩
  rw [if_pos h1] at hc
  unfold fitsB at hc
  simp only [Bool.and_eq_true] at hc
  have p1 := inB_told hc.1.1
  have p2 := inB_told hc.1.2
  have p3 := inB_told hc.2
  exact ⟨p1.1, p1.2, p2.1, p2.2, p3.1, p3.2⟩
end Go.Proofs.Ytdnddoiemaifjaa
