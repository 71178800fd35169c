/- Two devices, package device's and the reference's, apart; what each operation makes of them. -/
import Derived.Test.YtdfncmhbbhmgfaaDevCancel
import Derived.Test.YtdfncmhbbhmgfaaDevSame
import Derived.Test.YtdfncmhbbhmgfaaDevLives
namespace Go.Proofs.Ytdfncmhbbhmgfaa
open Go.RowKit
/-- A device's state. -/
structure DS where
  l : List Rq
  last : Int
  done : Int
/-- N1, N2: above all blocks of each. -/
def Two (w : World) (base b1 b2 N1 N2 : Nat) (room : Int) (s t : DS) : Prop :=
  ∃ v1 v2, Dev w b1 base room s.l s.last s.done v1 ∧ RDev w b2 base room t.l t.last t.done v2 ∧ (b1 < N1 ∧ (∀ k, v1.ownBlock = some k → k < N1) ∧ b2 < N2 ∧ ∀ k, v2.ownBlock = some k → k < N2) ∧ b1 ≠ b2 ∧ v1.ownBlock ≠ some b2 ∧ v2.ownBlock ≠ some b1 ∧ (∀ k, v1.ownBlock = some k → v2.ownBlock ≠ some k) ∧ base ≤ b1 ∧ base ≤ b2 ∧ base ≤ w.heap.size
/-- A state that may be, behind at most k acts. -/
structure OkS (room : Int) (k : Int) (s : DS) : Prop where
  r0 : 0 < room
  r1 : room ≤ 4096
  len : (s.l.length : Int) ≤ room
  l0 : 0 ≤ s.last
  l1 : s.last ≤ k
  d0 : 0 ≤ s.done
  d1 : s.done ≤ k
  k1 : k ≤ 1000000
theorem Dev.below {w w' : World} {b base : Nat} {room : Int} {l : List Rq} {last done : Int} {v : Value} (h : Dev w b base room l last done v) (hb : Below w.heap.size w w') : Dev w' b base room l last done v :=
  ⟨h.room_.below hb, h.row.below hb, h.last_.below hb, h.done_.below hb, own_below h.own hb, h.apart⟩
theorem RDev.below {w w' : World} {b base : Nat} {room : Int} {l : List Rq} {last done : Int} {v : Value} (h : RDev w b base room l last done v) (hb : Below w.heap.size w w') : RDev w' b base room l last done v :=
  ⟨h.room_.below hb, h.row.below hb, h.last_.below hb, h.done_.below hb, own_below h.own hb, h.apart⟩
theorem Dev.keep {S : Nat → Prop} {w w' : World} {b base : Nat} {room : Int} {l : List Rq} {last done : Int} {v : Value} (h : Dev w b base room l last done v) (hc : Chg S w w') (hs : ¬ S b) (hv : ∀ k, v.ownBlock = some k → ¬ S k) : Dev w' b base room l last done v :=
  ⟨h.room_.keep hc hs, h.row.keep hc hs, h.last_.keep hc hs, h.done_.keep hc hs, hc.own h.own hv, h.apart⟩
theorem RDev.keep {S : Nat → Prop} {w w' : World} {b base : Nat} {room : Int} {l : List Rq} {last done : Int} {v : Value} (h : RDev w b base room l last done v) (hc : Chg S w w') (hs : ¬ S b) (hv : ∀ k, v.ownBlock = some k → ¬ S k) : RDev w' b base room l last done v :=
  ⟨h.room_.keep hc hs, h.row.keep hc hs, h.last_.keep hc hs, h.done_.keep hc hs, hc.own h.own hv, h.apart⟩
theorem Two.below {w w' : World} {base b1 b2 N1 N2 : Nat} {room : Int} {s t : DS} (h : Two w base b1 b2 N1 N2 room s t) (hb : Below w.heap.size w w') : Two w' base b1 b2 N1 N2 room s t := by
  obtain ⟨v1, v2, h1, h2, hN, h3, h4, h5, h6, h7, h8, h9⟩ := h
  exact ⟨v1, v2, h1.below hb, h2.below hb, hN, h3, h4, h5, h6, h7, h8, Nat.le_trans h9 hb.size⟩
theorem Two.size {w : World} {base b1 b2 N1 N2 : Nat} {room : Int} {s t : DS} (h : Two w base b1 b2 N1 N2 room s t) : base ≤ w.heap.size := by
  obtain ⟨v1, v2, h1, h2, hN, h3, h4, h5, h6, h7, h8, h9⟩ := h
  exact h9
def startS (room : Int) (s : DS) (r : Rq) : Int × Int × DS :=
  if goodR r = true then if (s.l.length : Int) < room then (s.last + 1, 0, ⟨s.l ++ [{ r with id := s.last + 1 }], s.last + 1, s.done⟩) else (0, 3, s) else (0, 2, s)
def finS (s : DS) (k : Int) : Rq × Int × Int × DS :=
  match s.l[(max k 0 % s.l.length).toNat]? with
  | some r => (r, resV r, 0, ⟨s.l.eraseIdx (max k 0 % s.l.length).toNat, s.last, s.done + 1⟩)
  | none => (⟨0, 0, 0, 0, 0⟩, 0, 4, s)
def canS (s : DS) (sp : Int) : Int × DS := ((s.l.length : Int) - (canL sp s.l).length, ⟨canL sp s.l, s.last, s.done⟩)
/-- The code's device changed. -/
theorem Two.left {w w' : World} {base b1 b2 N1 N2 : Nat} {room : Int} {s s' t : DS} {v1 v2 v' : Value} (h1 : Dev w b1 base room s.l s.last s.done v1) (h2 : RDev w b2 base room t.l t.last t.done v2) (hN : b1 < N1 ∧ (∀ k, v1.ownBlock = some k → k < N1) ∧ b2 < N2 ∧ ∀ k, v2.ownBlock = some k → k < N2) (h3 : b1 ≠ b2) (h4 : v1.ownBlock ≠ some b2) (h5 : v2.ownBlock ≠ some b1)
    (h6 : ∀ k, v1.ownBlock = some k → v2.ownBlock ≠ some k) (h7 : base ≤ b1) (h8 : base ≤ b2) (h9 : base ≤ w.heap.size) (hc : Chg (fun k => k = b1 ∨ v1.ownBlock = some k) w w') (hd : Dev w' b1 base room s'.l s'.last s'.done v') (hv : v'.ownBlock = v1.ownBlock ∨ ∀ k, v'.ownBlock = some k → w.heap.size ≤ k) :
    Chg (fun k => base ≤ k ∧ k < N1) w w' ∧ Two w' base b1 b2 w'.heap.size N2 room s' t := by
  have hb2 := h2.room_.lt
  refine ⟨hc.mono (fun k _ e => ?_), v', v2, hd, h2.keep hc ?_ ?_, ⟨hd.room_.lt, fun k e => (hd.own.lt k e).2, hN.2.2.1, hN.2.2.2⟩, h3, ?_, h5, ?_, h7, h8, Nat.le_trans h9 hc.size⟩
  · rcases e with e | e
    · exact ⟨by omega, by rw [e]; exact hN.1⟩
    · exact ⟨own_base h1.own k e, hN.2.1 k e⟩
  · rintro (e | e)
    · exact h3 e.symm
    · exact h4 e
  · rintro k hk (e | e)
    · rw [e] at hk; exact h5 hk
    · exact h6 k e hk
  · intro e
    rcases hv with hv | hv
    · rw [hv] at e; exact h4 e
    · have := hv _ e; omega
  · intro k e e2
    rcases hv with hv | hv
    · rw [hv] at e; exact h6 k e e2
    · have := hv k e; have := (h2.own.lt k e2).2; omega
/-- The reference's device changed. -/
theorem Two.right {w w' : World} {base b1 b2 N1 N2 : Nat} {room : Int} {s t t' : DS} {v1 v2 v' : Value} (h1 : Dev w b1 base room s.l s.last s.done v1) (_h2 : RDev w b2 base room t.l t.last t.done v2) (hN : b1 < N1 ∧ (∀ k, v1.ownBlock = some k → k < N1) ∧ b2 < N2 ∧ ∀ k, v2.ownBlock = some k → k < N2) (h3 : b1 ≠ b2) (h4 : v1.ownBlock ≠ some b2) (_h5 : v2.ownBlock ≠ some b1)
    (_h6 : ∀ k, v1.ownBlock = some k → v2.ownBlock ≠ some k) (h7 : base ≤ b1) (h8 : base ≤ b2) (h9 : base ≤ w.heap.size) (hc : Chg (fun k => k = b2) w w') (hd : RDev w' b2 base room t'.l t'.last t'.done v') (hv : ∀ k, v'.ownBlock = some k → w.heap.size ≤ k) :
    Chg (fun k => base ≤ k ∧ k < N2) w w' ∧ Two w' base b1 b2 N1 w'.heap.size room s t' := by
  have hb1 := h1.room_.lt
  refine ⟨hc.mono (fun k _ e => ⟨by omega, by rw [e]; exact hN.2.2.1⟩), v1, v', h1.keep hc h3 ?_, hd, ⟨hN.1, hN.2.1, hd.room_.lt, fun k e => (hd.own.lt k e).2⟩, h3, h4, ?_, ?_, h7, h8, Nat.le_trans h9 hc.size⟩
  · intro k hk e; rw [e] at hk; exact h4 hk
  · intro e; have := hv _ e; omega
  · intro k e e2; have := hv k e2; have := (h1.own.lt k e).2; omega
theorem Below.up {w w' : World} {base : Nat} (h : Below w.heap.size w w') (hb : base ≤ w.heap.size) : Below base w w' := ⟨h.os, h.tape, h.output, h.size, fun i hi => h.block i (by omega)⟩
theorem Two.tight {w : World} {base b1 b2 N1 N2 : Nat} {room : Int} {s t : DS} (h : Two w base b1 b2 N1 N2 room s t) : Two w base b1 b2 w.heap.size w.heap.size room s t := by
  obtain ⟨v1, v2, h1, h2, hN, h3⟩ := h
  exact ⟨v1, v2, h1, h2, ⟨h1.room_.lt, fun k e => (h1.own.lt k e).2, h2.room_.lt, fun k e => (h2.own.lt k e).2⟩, h3⟩
theorem tstart {w : World} {base b1 b2 N1 N2 : Nat} {room k : Int} {s t : DS} (h : Two w base b1 b2 N1 N2 room s t) (hk : OkS room k s) (r : Rq) :
    Calls Try.prog 9 #[.pointer (some ⟨b1, 0, none⟩), rqV r] w fun e w' => e = .returned (.tuple #[.int .i64 (startS room s r).1, .int .i64 (startS room s r).2.1]) ∧ Chg (fun k => base ≤ k ∧ k < N1) w w' ∧ ∃ N, Two w' base b1 b2 N N2 room (startS room s r).2.2 t := by
  have h' := h
  obtain ⟨v1, v2, h1, h2, hN, h3, h4, h5, h6, h7, h8, h9⟩ := h
  unfold startS
  cases hg : goodR r with
  | false =>
    rw [if_neg (by simp)]
    refine (dstart_bad b1 base room s.l s.last s.done v1 r w h1 hk.r0 hg).mono ?_
    rintro e w' ⟨rfl, hb⟩
    exact ⟨rfl, .of_below hb, _, h'.below hb⟩
  | true =>
    rw [if_pos rfl]
    by_cases hf : (s.l.length : Int) < room
    · rw [if_pos hf]
      refine (dstart_ok b1 base room s.l s.last s.done v1 r w h1 h9 hk.r0 hg hf hk.r1 hk.l0 (by have := hk.l1; have := hk.k1; omega)).mono ?_
      rintro e w' ⟨rfl, hc, v', hd, hv⟩
      have z := Two.left (s' := ⟨s.l ++ [{ r with id := s.last + 1 }], s.last + 1, s.done⟩) h1 h2 hN h3 h4 h5 h6 h7 h8 h9 hc hd (hv.imp id (fun ⟨k, e, hk⟩ k' e' => by rw [e] at e'; cases e'; exact hk))
      exact ⟨rfl, z.1, _, z.2⟩
    · rw [if_neg hf]
      refine (dstart_full b1 base room s.l s.last s.done v1 r w h1 hk.r0 hg (by have := hk.len; omega)).mono ?_
      rintro e w' ⟨rfl, hb⟩
      exact ⟨rfl, .of_below hb, _, h'.below hb⟩
theorem tstartR {w : World} {base b1 b2 N1 N2 : Nat} {room k : Int} {s t : DS} (h : Two w base b1 b2 N1 N2 room s t) (hk : OkS room k t) (r : Rq) :
    Calls Try.prog 26 #[.pointer (some ⟨b2, 0, none⟩), rqV r] w fun e w' => e = .returned (.tuple #[.int .i64 (startS room t r).1, .int .i64 (startS room t r).2.1]) ∧ Chg (fun k => base ≤ k ∧ k < N2) w w' ∧ ∃ N, Two w' base b1 b2 N1 N room s (startS room t r).2.2 := by
  have h' := h
  obtain ⟨v1, v2, h1, h2, hN, h3, h4, h5, h6, h7, h8, h9⟩ := h
  unfold startS
  cases hg : goodR r with
  | false =>
    rw [if_neg (by simp)]
    refine (rstart_bad _ r w hg).mono ?_
    rintro e w' ⟨rfl, hb⟩
    exact ⟨rfl, .of_below hb, _, h'.below hb⟩
  | true =>
    rw [if_pos rfl]
    by_cases hf : (t.l.length : Int) < room
    · rw [if_pos hf]
      refine (rstart_ok b2 base room t.l t.last t.done v2 r w h2 h9 hg hf hk.r1 hk.l0 (by have := hk.l1; have := hk.k1; omega)).mono ?_
      rintro e w' ⟨rfl, hc, v', hd, hv⟩
      have z := Two.right (t' := ⟨t.l ++ [{ r with id := t.last + 1 }], t.last + 1, t.done⟩) h1 h2 hN h3 h4 h5 h6 h7 h8 h9 hc hd hv
      exact ⟨rfl, z.1, _, z.2⟩
    · rw [if_neg hf]
      refine (rstart_full b2 base room t.l t.last t.done v2 r w h2 hg (by have := hk.len; omega)).mono ?_
      rintro e w' ⟨rfl, hb⟩
      exact ⟨rfl, .of_below hb, _, h'.below hb⟩
theorem mod_lt_len {l : List Rq} (hl : 0 < l.length) (k : Int) : ((max k 0 % l.length).toNat : Int) = max k 0 % l.length ∧ (max k 0 % l.length).toNat < l.length := by
  have h1 := Int.emod_nonneg (max k 0) (show (l.length : Int) ≠ 0 by omega)
  have h2 := Int.emod_lt_of_pos (max k 0) (show (0 : Int) < l.length by omega)
  omega
theorem tfin {w : World} {base b1 b2 N1 N2 : Nat} {room k : Int} {s t : DS} (h : Two w base b1 b2 N1 N2 room s t) (hk : OkS room k s) (q : Int) :
    Calls Try.prog 10 #[.pointer (some ⟨b1, 0, none⟩), .int .i64 q] w fun e w' => e = .returned (.tuple #[rqV (finS s q).1, .int .i64 (finS s q).2.1, .int .i64 (finS s q).2.2.1]) ∧ Chg (fun k => base ≤ k ∧ k < N1) w w' ∧ ∃ N, Two w' base b1 b2 N N2 room (finS s q).2.2.2 t := by
  have h' := h
  obtain ⟨v1, v2, h1, h2, hN, h3, h4, h5, h6, h7, h8, h9⟩ := h
  unfold finS
  have hlen := hk.len
  have hr1 := hk.r1
  by_cases hl : 0 < s.l.length
  · obtain ⟨e1, e2⟩ := mod_lt_len hl q
    rw [List.getElem?_eq_getElem e2]
    refine (dfin_ok b1 base room s.l s.last s.done v1 q _ _ w h1 h9 hk.r0 hl (by omega) e1 (List.getElem?_eq_getElem e2) hk.d0 (by have := hk.d1; have := hk.k1; omega)).mono ?_
    rintro e w' ⟨rfl, hc, v', hd, k', hv, hv2⟩
    have z := Two.left (s' := ⟨s.l.eraseIdx _, s.last, s.done + 1⟩) h1 h2 hN h3 h4 h5 h6 h7 h8 h9 (hc.mono (fun k _ e => .inl e)) hd (.inr (fun k'' e => by rw [hv] at e; cases e; exact hv2))
    exact ⟨rfl, z.1, _, z.2⟩
  · have hl0 : s.l = [] := List.eq_nil_of_length_eq_zero (by omega)
    have h1' := h1
    rw [hl0] at h1'
    rw [hl0]
    refine (dfin_none b1 base room s.last s.done v1 q w h1' hk.r0).mono ?_
    rintro e w' ⟨rfl, hb⟩
    exact ⟨rfl, .of_below hb, _, h'.below hb⟩
theorem tfinR {w : World} {base b1 b2 N1 N2 : Nat} {room k : Int} {s t : DS} (h : Two w base b1 b2 N1 N2 room s t) (hk : OkS room k t) (q : Int) :
    Calls Try.prog 27 #[.pointer (some ⟨b2, 0, none⟩), .int .i64 q] w fun e w' => e = .returned (.tuple #[rqV (finS t q).1, .int .i64 (finS t q).2.1, .int .i64 (finS t q).2.2.1]) ∧ Chg (fun k => base ≤ k ∧ k < N2) w w' ∧ ∃ N, Two w' base b1 b2 N1 N room s (finS t q).2.2.2 := by
  have h' := h
  obtain ⟨v1, v2, h1, h2, hN, h3, h4, h5, h6, h7, h8, h9⟩ := h
  unfold finS
  have hlen := hk.len
  have hr1 := hk.r1
  by_cases hl : 0 < t.l.length
  · obtain ⟨e1, e2⟩ := mod_lt_len hl q
    rw [List.getElem?_eq_getElem e2]
    refine (rfin_ok b2 base room t.l t.last t.done v2 q _ _ w h2 h9 hl (by omega) e1 (List.getElem?_eq_getElem e2) hk.d0 (by have := hk.d1; have := hk.k1; omega)).mono ?_
    rintro e w' ⟨rfl, hc, v', hd, hv⟩
    have z := Two.right (t' := ⟨t.l.eraseIdx _, t.last, t.done + 1⟩) h1 h2 hN h3 h4 h5 h6 h7 h8 h9 hc hd hv
    exact ⟨rfl, z.1, _, z.2⟩
  · have hl0 : t.l = [] := List.eq_nil_of_length_eq_zero (by omega)
    have h2' := h2
    rw [hl0] at h2'
    rw [hl0]
    refine (rfin_none b2 base room t.last t.done v2 q w h2').mono ?_
    rintro e w' ⟨rfl, hb⟩
    exact ⟨rfl, .of_below hb, _, h'.below hb⟩
theorem tcan {w : World} {base b1 b2 N1 N2 : Nat} {room k : Int} {s t : DS} (h : Two w base b1 b2 N1 N2 room s t) (hk : OkS room k s) (sp : Int) :
    Calls Try.prog 20 #[.pointer (some ⟨b1, 0, none⟩), .int .i64 sp] w fun e w' => e = .returned (.int .i64 (canS s sp).1) ∧ Chg (fun k => base ≤ k ∧ k < N1) w w' ∧ ∃ N, Two w' base b1 b2 N N2 room (canS s sp).2 t := by
  obtain ⟨v1, v2, h1, h2, hN, h3, h4, h5, h6, h7, h8, h9⟩ := h
  have hlen := hk.len
  have hr1 := hk.r1
  refine (dcancel b1 base room s.l s.last s.done v1 sp w h1 h9 hk.r0 (by omega)).mono ?_
  rintro e w' ⟨rfl, hc, v', hd, hv⟩
  have z := Two.left (s' := ⟨canL sp s.l, s.last, s.done⟩) h1 h2 hN h3 h4 h5 h6 h7 h8 h9 (hc.mono (fun k _ e => .inl e)) hd (.inr hv)
  exact ⟨rfl, z.1, _, z.2⟩
theorem tcanR {w : World} {base b1 b2 N1 N2 : Nat} {room k : Int} {s t : DS} (h : Two w base b1 b2 N1 N2 room s t) (hk : OkS room k t) (sp : Int) :
    Calls Try.prog 28 #[.pointer (some ⟨b2, 0, none⟩), .int .i64 sp] w fun e w' => e = .returned (.int .i64 (canS t sp).1) ∧ Chg (fun k => base ≤ k ∧ k < N2) w w' ∧ ∃ N, Two w' base b1 b2 N1 N room s (canS t sp).2 := by
  obtain ⟨v1, v2, h1, h2, hN, h3, h4, h5, h6, h7, h8, h9⟩ := h
  have hlen := hk.len
  have hr1 := hk.r1
  refine (rcancel b2 base room t.l t.last t.done v2 sp w h2 h9 (by omega)).mono ?_
  rintro e w' ⟨rfl, hc, v', hd, hv⟩
  have z := Two.right (t' := ⟨canL sp t.l, t.last, t.done⟩) h1 h2 hN h3 h4 h5 h6 h7 h8 h9 hc hd hv
  exact ⟨rfl, z.1, _, z.2⟩
theorem OkS.start {room k : Int} {s : DS} (h : OkS room k s) (r : Rq) (hk : k + 1 ≤ 1000000) : OkS room (k + 1) (startS room s r).2.2 := by
  unfold startS
  obtain ⟨h0, h1, h2, h3, h4, h5, h6, h7⟩ := h
  split
  · split
    · rename_i hf; exact ⟨h0, h1, by simp; omega, by simp only; omega, by simp only; omega, by simp only; omega, by simp only; omega, hk⟩
    · exact ⟨h0, h1, h2, h3, by simp only; omega, h5, by simp only; omega, hk⟩
  · exact ⟨h0, h1, h2, h3, by simp only; omega, h5, by simp only; omega, hk⟩
theorem OkS.fin {room k : Int} {s : DS} (h : OkS room k s) (q : Int) (hk : k + 1 ≤ 1000000) : OkS room (k + 1) (finS s q).2.2.2 := by
  unfold finS
  obtain ⟨h0, h1, h2, h3, h4, h5, h6, h7⟩ := h
  split
  · rename_i r hr
    have := (List.getElem?_eq_some_iff.1 hr).1
    exact ⟨h0, h1, by simp only; rw [List.length_eraseIdx_of_lt this]; omega, h3, by simp only; omega, by simp only; omega, by simp only; omega, hk⟩
  · exact ⟨h0, h1, h2, h3, by simp only; omega, h5, by simp only; omega, hk⟩
theorem OkS.can {room k : Int} {s : DS} (h : OkS room k s) (sp : Int) (hk : k + 1 ≤ 1000000) : OkS room (k + 1) (canS s sp).2 := by
  unfold canS
  obtain ⟨h0, h1, h2, h3, h4, h5, h6, h7⟩ := h
  have := canL_le sp s.l
  exact ⟨h0, h1, by simp only; omega, h3, by simp only; omega, h5, by simp only; omega, hk⟩
end Go.Proofs.Ytdfncmhbbhmgfaa
