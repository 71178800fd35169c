/- Rows of values: in memory, and as an argument; what each leaves in bytes. -/
import Derived.Test.YtdhckbpfkdekmaaLawPuts
import Derived.Test.YtdhckbpfkdekmaaBackPlain
import Derived.Test.YtdhckbpfkdekmaaOneStr
import Derived.Test.YtdhckbpfkdekmaaOpen
namespace Go.Proofs.Ytdhckbpfkdekmaa
open Go.RowKit
def valC (q : ValV) : List Value := [.int .i64 q.k, .int .u64 q.n, .int .i64 q.i, .string q.s, .slice q.A q.m q.c]
def vals (l : List ValV) : List Value := l.flatMap valC
theorem vals_length : ∀ l : List ValV, (vals l).length = l.length * 5
  | [] => rfl
  | m :: l => by
    have := vals_length l
    simp only [vals, List.flatMap_cons, List.length_append, List.length_cons] at this ⊢
    rw [this]
    simp [valC]
    omega
theorem vals_get : ∀ (l : List ValV) (i : Nat) (m : ValV), l[i]? = some m → ∀ j u, (valC m)[j]? = some u → (vals l)[i * 5 + j]? = some u
  | [], i, m, h => by simp at h
  | a :: l, 0, m, h => fun j u hj => by
    simp at h
    subst h
    have hl : j < (valC a).length := (List.getElem?_eq_some_iff.1 hj).1
    simp only [vals, List.flatMap_cons, Nat.zero_mul, Nat.zero_add]
    rw [List.getElem?_append_left hl]
    exact hj
  | a :: l, i + 1, m, h => fun j u hj => by
    have h2 := vals_get l i m (by simpa using h) j u hj
    simp only [vals, List.flatMap_cons] at h2 ⊢
    have h3 : (valC a).length = 5 := rfl
    rw [List.getElem?_append_right (by omega), h3, show (i + 1) * 5 + j - 5 = i * 5 + j from by omega]
    exact h2
theorem vals_len {w : World} {D : Option Addr} {m d : Nat} {l : List ValV} (h : Rds w 5 D m d (vals l)) : l.length = m := by
  have := h.len; rw [vals_length] at this; omega
structure ValAt (w : World) (p : Addr) (q : ValV) : Prop where
  c0 : w.cell? p = some (.int .i64 q.k)
  c1 : w.cell? ⟨p.block, p.off + 1, none⟩ = some (.int .u64 q.n)
  c2 : w.cell? ⟨p.block, p.off + 2, none⟩ = some (.int .i64 q.i)
  c3 : w.cell? ⟨p.block, p.off + 3, none⟩ = some (.string q.s)
  c4 : w.cell? ⟨p.block, p.off + 4, none⟩ = some (.slice q.A q.m q.c)
theorem val_read {w : World} {ad : Addr} {n c : Nat} {l : List ValV} (h : Rds w 5 (some ad) n c (vals l)) (k : Nat) (q : ValV) (hk : l[k]? = some q) : ValAt w (ad.add (k * 5)) q := by
  have h1 : ∀ j u, (valC q)[j]? = some u → w.cell? ((ad.add (k * 5)).add j) = some u := by
    intro j u hj
    rw [Go.Deep.add_add]
    exact h.cell ad rfl _ _ (vals_get l k q hk j u hj)
  exact ⟨h1 0 _ rfl, h1 1 _ rfl, h1 2 _ rfl, h1 3 _ rfl, h1 4 _ rfl⟩
theorem ValV.ok.below {w w1 : World} {v : ValV} (h : v.ok w) (hb : Below w.heap.size w w1) : v.ok w1 := ⟨h.n, h.i, h.l, h.row.below hb⟩
/-- The bytes of values in order. -/
def encVs (l : List ValV) : List Int := l.flatMap encV
theorem encVs_drop {l : List ValV} {k : Nat} (h : k < l.length) : encVs (l.drop k) = encV l[k] ++ encVs (l.drop (k + 1)) := by
  unfold encVs; rw [List.drop_eq_getElem_cons h, List.flatMap_cons]
theorem encVs_take {l : List ValV} {k : Nat} (h : k < l.length) : encVs (l.take (k + 1)) = encVs (l.take k) ++ encV l[k] := by
  unfold encVs; rw [List.take_succ_eq_append_getElem h, List.flatMap_append]; simp
theorem enc_u8 (n : Nat) (h : n < 18446744073709551616) : U8s (enc n) := fun x hx => enc_in h x hx
theorem bytesOf_u8 (s : ByteArray) : U8s (bytesOf s) := by
  intro x hx
  simp only [bytesOf, List.mem_map] at hx
  obtain ⟨b, _, rfl⟩ := hx
  have := b.toNat_lt
  omega
theorem encs_u8 {l : List Int} (h : ∀ x ∈ l, I64 x) : U8s (encs l) := by
  intro x hx
  simp only [encs, List.mem_flatMap] at hx
  obtain ⟨y, hy, hx⟩ := hx
  exact enc_u8 _ (zigN_lt y (h y hy).1 (h y hy).2) x hx
theorem U8s.append {a b : List Int} (ha : U8s a) (hb : U8s b) : U8s (a ++ b) := fun x hx => (List.mem_append.1 hx).elim (ha x) (hb x)
theorem encV_u8 {w : World} {v : ValV} (h : v.ok w) (hs : v.s.size ≤ 1000) (hm : v.m ≤ 1000) : U8s (encV v) := by
  unfold encV
  split
  · exact enc_u8 _ h.n
  · split
    · exact enc_u8 _ (zigN_lt _ h.i.1 h.i.2)
    · split
      · exact (enc_u8 _ (by omega)).append (bytesOf_u8 _)
      · split
        · intro x hx; rw [List.mem_singleton.1 hx]; unfold flagN; split <;> omega
        · split
          · exact (enc_u8 _ (by omega)).append (encs_u8 h.l)
          · intro x hx; rw [List.mem_singleton.1 hx]; omega
theorem encV_len {w : World} {v : ValV} (h : v.ok w) (hs : v.s.size ≤ 200) (hm : v.m ≤ 50) : (encV v).length ≤ 600 := by
  have h1 := enc_length v.n
  have h2 := enc_length (zigN v.i)
  have h3 := enc_length v.s.size
  have h4 := enc_length v.m
  have h5 := encs_length v.l
  have h6 := rds_len h.row
  have h7 := bytesOf_length v.s
  unfold encV
  repeat' split
  all_goals first | omega | (simp only [List.length_append, List.length_singleton]; omega) | (simp; done)
end Go.Proofs.Ytdhckbpfkdekmaa
