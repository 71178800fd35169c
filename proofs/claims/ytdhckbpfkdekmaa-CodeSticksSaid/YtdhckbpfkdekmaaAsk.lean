/- Rows of asks: in memory, and as an argument. -/
import Derived.Test.YtdhckbpfkdekmaaLawGet
import Derived.Test.YtdhckbpfkdekmaaLaw07
import Derived.Test.YtdhckbpfkdekmaaOpen
namespace Go.Proofs.Ytdhckbpfkdekmaa
open Go.RowKit
def askC (q : AskV) : List Value := [.int .i64 q.k, .int .i64 q.a, .int .i64 q.d, .int .u64 q.n, .int .i64 q.c]
def asks (l : List AskV) : List Value := l.flatMap askC
theorem asks_length : ∀ l : List AskV, (asks l).length = l.length * 5
  | [] => rfl
  | m :: l => by
    have := asks_length l
    simp only [asks, List.flatMap_cons, List.length_append, List.length_cons] at this ⊢
    rw [this]
    simp [askC]
    omega
theorem asks_get : ∀ (l : List AskV) (i : Nat) (m : AskV), l[i]? = some m → ∀ j u, (askC m)[j]? = some u → (asks l)[i * 5 + j]? = some u
  | [], i, m, h => by simp at h
  | a :: l, 0, m, h => fun j u hj => by
    simp at h
    subst h
    have hl : j < (askC a).length := (List.getElem?_eq_some_iff.1 hj).1
    simp only [asks, List.flatMap_cons, Nat.zero_mul, Nat.zero_add]
    rw [List.getElem?_append_left hl]
    exact hj
  | a :: l, i + 1, m, h => fun j u hj => by
    have h2 := asks_get l i m (by simpa using h) j u hj
    simp only [asks, List.flatMap_cons] at h2 ⊢
    have h3 : (askC a).length = 5 := rfl
    rw [List.getElem?_append_right (by omega), h3, show (i + 1) * 5 + j - 5 = i * 5 + j from by omega]
    exact h2
theorem asks_len {w : World} {D : Option Addr} {m d : Nat} {l : List AskV} (h : Rds w 5 D m d (asks l)) : l.length = m := by
  have := h.len; rw [asks_length] at this; omega
structure AskAt (w : World) (p : Addr) (q : AskV) : Prop where
  c0 : w.cell? p = some (.int .i64 q.k)
  c1 : w.cell? ⟨p.block, p.off + 1, none⟩ = some (.int .i64 q.a)
  c2 : w.cell? ⟨p.block, p.off + 2, none⟩ = some (.int .i64 q.d)
  c3 : w.cell? ⟨p.block, p.off + 3, none⟩ = some (.int .u64 q.n)
  c4 : w.cell? ⟨p.block, p.off + 4, none⟩ = some (.int .i64 q.c)
theorem ask_read {w : World} {ad : Addr} {n c : Nat} {l : List AskV} (h : Rds w 5 (some ad) n c (asks l)) (k : Nat) (q : AskV) (hk : l[k]? = some q) : AskAt w (ad.add (k * 5)) q := by
  have h1 : ∀ j u, (askC q)[j]? = some u → w.cell? ((ad.add (k * 5)).add j) = some u := by
    intro j u hj
    rw [Go.Deep.add_add]
    exact h.cell ad rfl _ _ (asks_get l k q hk j u hj)
  exact ⟨h1 0 _ rfl, h1 1 _ rfl, h1 2 _ rfl, h1 3 _ rfl, h1 4 _ rfl⟩
theorem Both.go7 {L B C : Nat} {b m : Nat} {w W : World} {s r : List Int × Int} (h : Both L B C b m w W s r) (us : U8s s.1 ∧ s.1.length ≤ 1000000) (ur : U8s r.1 ∧ r.1.length ≤ 1000000) (bl : b < L) (lm : L ≤ m) (bL : B ≤ L) (mc : m < C) (cw : C ≤ W.heap.size) : Go7 L B C b m W s r :=
  ⟨h.src, h.ref, us, ur, bl, lm, bL, mc, cw⟩
/-- What holds of bytes holds behind an ask; an error leaves none. -/
def StOk (s : List Int × Int) : Prop := U8s s.1 ∧ s.1.length ≤ 1000000 ∧ (s.2 ≠ 0 → s.1 = [])
theorem stOk_got {T : Type} {z : T} {f : List Int → Except Int (T × List Int)} {P : T → Prop} {s : List Int × Int} (h : StOk s) (hw : Well s.1 (f s.1) P) : StOk (gotE z f s.1 s.2).2 := by
  obtain ⟨bs, er⟩ := s
  by_cases h0 : er = 0
  · subst h0
    cases hf : f bs with
    | error x => rw [gotE_error hf]; exact ⟨(fun x hx => by cases hx), Nat.zero_le _, fun _ => rfl⟩
    | ok q =>
      obtain ⟨v, rest⟩ := q
      rw [gotE_ok hf]
      have hw2 := hw
      simp only [hf] at hw2
      exact ⟨hw2.2.1, Nat.le_trans hw2.2.2 h.2.1, fun h => absurd rfl h⟩
  · rw [gotE_err h0]; exact h
theorem stOk_ask {s : List Int × Int} (h : StOk s) (q : AskV) : StOk (askSt q s) := by
  unfold askSt
  split
  · exact stOk_got h (well_numM h.1 _)
  · split
    · exact stOk_got h (well_within h.1 _ _)
    · split
      · exact stOk_got h (well_text h.1 _)
      · split
        · exact stOk_got h (well_flag h.1)
        · split
          · exact stOk_got h (well_ints h.1 _ _ _)
          · exact stOk_got h (well_oct h.1)
end Go.Proofs.Ytdhckbpfkdekmaa
