/- Wide numbers in boxes. -/
import Derived.Test.YtnacfpkagomfaaaDigBit
namespace Go.Proofs.Ytnacfpkagomfaaa
open Go.RowKit
/-- A block that holds a wide number's two cells. -/
def BW (w : World) (b : Nat) (s : Bool) (A : Option Addr) (n c : Nat) : Prop := w.heap[b]? = some (.cells #[.bool s, .slice A n c] 50 (0, 0))
theorem BW.lt {w : World} {b : Nat} {s : Bool} {A : Option Addr} {n c : Nat} (h : BW w b s A n c) : b < w.heap.size := by
  unfold BW at h
  exact (Array.getElem?_eq_some_iff.1 h).1
theorem BW.c0 {w : World} {b : Nat} {s : Bool} {A : Option Addr} {n c : Nat} (h : BW w b s A n c) : w.cell? ⟨b, 0, none⟩ = some (.bool s) := by
  rw [cell_of_row w b 0 _ _ _ h]; rfl
theorem BW.c1 {w : World} {b : Nat} {s : Bool} {A : Option Addr} {n c : Nat} (h : BW w b s A n c) : w.cell? ⟨b, 1, none⟩ = some (.slice A n c) := by
  rw [cell_of_row w b 1 _ _ _ h]; rfl
theorem BW.f0 {w : World} {b : Nat} {s : Bool} {A : Option Addr} {n c : Nat} (h : BW w b s A n c) (j : Nat) : w.frozen? ⟨b, j, none⟩ = false := frozen_of_row w b j _ _ h
theorem BW.below {w w1 : World} {b : Nat} {s : Bool} {A : Option Addr} {n c : Nat} (h : BW w b s A n c) (hb : Below w.heap.size w w1) : BW w1 b s A n c := (hb.block b h.lt).trans h
theorem BW.keep {S : Nat → Prop} {w w1 : World} {b : Nat} {s : Bool} {A : Option Addr} {n c : Nat} (h : BW w b s A n c) (hc : Chg S w w1) (hs : ¬ S b) : BW w1 b s A n c := (hc.block b h.lt hs).trans h
theorem BW.new (w : World) (s : Bool) (A : Option Addr) (n c : Nat) : BW (w.alloc (.cells #[.bool s, .slice A n c] 50)) w.heap.size s A n c := heap_alloc_new w _
theorem BW.up {w : World} {b : Nat} {s : Bool} {A : Option Addr} {n c : Nat} (h : BW w b s A n c) (o : Obj) : BW (w.alloc o) b s A n c := h.below (below_al (Below.refl _ _) o)
/-- A wide number stored. -/
def stW (w : World) (b : Nat) (s : Bool) (A : Option Addr) (n c : Nat) : World := (w.setCell ⟨b, 0, none⟩ (.bool s)).setCell ⟨b, 1, none⟩ (.slice A n c)
theorem BW.st {w : World} {b : Nat} {s : Bool} {A : Option Addr} {n c : Nat} (h : BW w b s A n c) (s' : Bool) (A' : Option Addr) (n' c' : Nat) : BW (stW w b s' A' n' c') b s' A' n' c' := by
  have h1 := heap_setCell_same w b 0 #[.bool s, .slice A n c] 50 (.bool s') h
  exact heap_setCell_same (w.setCell ⟨b, 0, none⟩ (.bool s')) b 1 _ 50 (.slice A' n' c') h1
theorem chg_st (w : World) (b : Nat) (s' : Bool) (A' : Option Addr) (n' c' : Nat) : Chg (fun q => q = b) w (stW w b s' A' n' c') := ((Chg.refl (fun q => q = b) w).setCell b 0 _ rfl).setCell b 1 _ rfl
theorem Wd.st {w : World} {b : Nat} {s : Bool} {A : Option Addr} {n c : Nat} {v : Value} {z : Int} {N : Nat} (h : Wd w v z N) (hb : BW w b s A n c) (s' : Bool) (A' : Option Addr) (n' c' : Nat) : Wd (stW w b s' A' n' c') v z N := by
  obtain ⟨A1, n1, c1, ds, rfl, hr⟩ := h
  exact Wd.boxed hb ⟨A1, n1, c1, ds, rfl, hr⟩ 0 1 _ _
theorem Wd.fit {w : World} {v : Value} {z : Int} {N : Nat} (h : Wd w v z N) (K : Nat) (hz : (z.natAbs : Int) < pw K) : Wd w v z K := by
  obtain ⟨A, n, c, ds, e, hr, h1, h2, h3, h4⟩ := h
  exact ⟨A, n, c, ds, e, hr, h1, h2, h3, by rw [← u32s_len hr]; exact len_small h1 h2 (by rw [h3]; exact hz)⟩
theorem Wd.size {w : World} {v : Value} {z : Int} {N : Nat} (h : Wd w v z N) : (z.natAbs : Int) < pw N := by
  obtain ⟨A, n, c, ds, e, hr, h1, h2, h3, h4⟩ := h
  have h5 := valD_bd h1
  rw [u32s_len hr, h3] at h5
  have := pw_mono h4
  omega
/-- A wide number that is read, its sign apart. -/
def Wr (w : World) (A : Option Addr) (n c : Nat) (z : Int) (N : Nat) : Prop := ∃ ds, Rds w 1 A n c (nums .u32 ds) ∧ Dig ds ∧ Trimmed ds ∧ valD ds = z ∧ n ≤ N
theorem Wd.open_ {w : World} {v : Value} {z : Int} {N : Nat} (h : Wd w v z N) : ∃ A n c, v = .agg #[.bool (decide (z < 0)), .slice A n c] ∧ Wr w A n c z.natAbs N := by
  obtain ⟨A, n, c, ds, e, h1⟩ := h
  exact ⟨A, n, c, e, ds, h1⟩
theorem Wd.open0 {w : World} {v : Value} {z : Int} {N : Nat} (h : Wd w v z N) (hz : 0 ≤ z) : ∃ A n c, v = .agg #[.bool false, .slice A n c] ∧ Wr w A n c z N := by
  obtain ⟨A, n, c, e, h1⟩ := h.open_
  rw [show decide (z < 0) = false by simp; omega] at e
  rw [show ((z.natAbs : Nat) : Int) = z by omega] at h1
  exact ⟨A, n, c, e, h1⟩
theorem Wr.wd0 {w : World} {A : Option Addr} {n c N : Nat} {z : Int} (h : Wr w A n c z N) (hz : 0 ≤ z) : Wd w (.agg #[.bool false, .slice A n c]) z N := by
  obtain ⟨ds, h1, h2, h3, h4, h5⟩ := h
  exact ⟨A, n, c, ds, by rw [show decide (z < 0) = false by simp; omega], h1, h2, h3, by rw [h4]; omega, h5⟩
theorem Wr.below {w w1 : World} {A : Option Addr} {n c N : Nat} {z : Int} (h : Wr w A n c z N) (hb : Below w.heap.size w w1) : Wr w1 A n c z N := by
  obtain ⟨ds, h1, h2⟩ := h
  exact ⟨ds, h1.below hb, h2⟩
theorem Wr.st {w : World} {b : Nat} {s : Bool} {A0 : Option Addr} {n0 c0 : Nat} {A : Option Addr} {n c N : Nat} {z : Int} (h : Wr w A n c z N) (hb : BW w b s A0 n0 c0) (s' : Bool) (A' : Option Addr) (n' c' : Nat) : Wr (stW w b s' A' n' c') A n c z N := by
  obtain ⟨ds, h1, h2⟩ := h
  have ha : ∀ ad, A = some ad → 0 < n → ¬ ad.block = b := fun ad e hn => by subst e; exact wide_apart hb h1 hn
  exact ⟨ds, (h1.set_away ha).set_away ha, h2⟩
theorem Wr.fit {w : World} {A : Option Addr} {n c N : Nat} {z : Int} (h : Wr w A n c z N) (K : Nat) (hz : z < pw K) : Wr w A n c z K := by
  obtain ⟨ds, h1, h2, h3, h4, h5⟩ := h
  exact ⟨ds, h1, h2, h3, h4, by rw [← u32s_len h1]; exact len_small h2 h3 (by rw [h4]; exact hz)⟩
theorem Wd.openS {w : World} {v : Value} {z : Int} {N : Nat} (h : Wd w v z N) : ∃ s A n c, v = .agg #[.bool s, .slice A n c] ∧ Wd w (.agg #[.bool s, .slice A n c]) z N := by
  obtain ⟨A, n, c, ds, rfl, h1⟩ := h
  exact ⟨_, A, n, c, rfl, A, n, c, ds, rfl, h1⟩
theorem Wr.zero {w : World} {A : Option Addr} {n c N : Nat} {z : Int} (h : Wr w A n c z N) : 0 < z ↔ 0 < n := by
  obtain ⟨ds, h1, h2, h3, h4, h5⟩ := h
  have hl := u32s_len h1
  have hb := valD_bd h2
  constructor
  · intro hz
    rcases Nat.eq_zero_or_pos n with h0 | h0
    · exfalso
      rw [h0] at hl
      have := List.eq_nil_of_length_eq_zero hl
      rw [this, valD] at h4
      omega
    · exact h0
  · intro hn
    rcases Int.lt_or_le 0 z with h0 | h0
    · exact h0
    · exfalso
      have := valD_zero h2 h3 (by omega)
      rw [this] at hl
      simp at hl
      omega
/-- Sizes compared. -/
theorem dsizeW (A : Option Addr) (n c : Nat) (B : Option Addr) (m d : Nat) (x y : Int) (N M : Nat) (w : World) (h1 : Wr w A n c x N) (h2 : Wr w B m d y M) :
    Calls Try.prog 47 #[.slice A n c, .slice B m d] w fun e w' => e = .returned (.int .i64 (cmpV x y)) ∧ Below w.heap.size w w' := by
  obtain ⟨a, r1, d1, t1, v1, _⟩ := h1
  obtain ⟨b, r2, d2, t2, v2, _⟩ := h2
  have := dsize A n c a B m d b w r1 r2 d1 d2 t1 t2
  rwa [v1, v2] at this
theorem dlessW (A : Option Addr) (n c : Nat) (B : Option Addr) (m d : Nat) (x y : Int) (N M : Nat) (w : World) (h1 : Wr w A n c x N) (h2 : Wr w B m d y M) (hN : N ≤ 3000) (hle : y ≤ x) :
    Calls Try.prog 49 #[.slice A n c, .slice B m d] w fun e w' => (∃ v, e = .returned v ∧ Siz w' v (x - y) N) ∧ Below w.heap.size w w' := by
  obtain ⟨a, r1, d1, t1, v1, k1⟩ := h1
  obtain ⟨b, r2, d2, t2, v2, _⟩ := h2
  have hl := len_le_of_val d1 d2 t2 (by rw [v1, v2]; exact hle)
  rw [u32s_len r1, u32s_len r2] at hl
  refine (dless A n c a B m d b w r1 r2 d1 d2 (by omega) hl (by rw [v1, v2]; exact hle)).mono ?_
  rintro e w' ⟨⟨v, he, A1, n1, c1, ds, e1, h⟩, hb⟩
  rw [v1, v2] at h
  exact ⟨⟨v, he, A1, n1, c1, ds, e1, h.1, h.2.1, h.2.2.1, by have := h.2.2.2; omega⟩, hb⟩
theorem dtrimS (s : Bool) (v : Value) (A : Option Addr) (n c : Nat) (z t : Int) (N : Nat) (w : World) (hv : v = .agg #[.bool s, .slice A n c]) (h : Siz w (.slice A n c) z N) (ht : t = if s then -z else z) :
    Calls Try.prog 48 #[v] w fun e w' => (∃ r, e = .returned r ∧ Wd w' r t N) ∧ Below w.heap.size w w' := by
  subst hv
  obtain ⟨A1, n1, c1, ds, e, h1, h2, h3, h4⟩ := h
  cases e
  refine (dtrim s A n c ds w h1 h2).mono ?_
  rintro e w' ⟨⟨r, he, hw⟩, hb⟩
  rw [tell_of h3 ht] at hw
  exact ⟨⟨r, he, hw.more h4⟩, hb⟩
theorem Wr.siz {w : World} {A : Option Addr} {n c N : Nat} {z : Int} (h : Wr w A n c z N) : Siz w (.slice A n c) z N := by
  obtain ⟨ds, h1, h2, _, h4, h5⟩ := h
  exact ⟨A, n, c, ds, rfl, h1, h2, h4, h5⟩
theorem dbitW (A : Option Addr) (n c : Nat) (z : Int) (N i : Nat) (w : World) (h : Wr w A n c z N) (hi : i < 1000000) :
    Calls Try.prog 46 #[.slice A n c, .int .i64 i] w fun e w' => e = .returned (.int .u32 (z / 2 ^ i % 2)) ∧ w = w' := by
  obtain ⟨ds, h1, h2, _, h4, _⟩ := h
  have := dbit A n c ds i w h1 h2 hi
  rwa [h4] at this
end Go.Proofs.Ytnacfpkagomfaaa
