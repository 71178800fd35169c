/- An argument that can be read as data, opened to its cells: whole numbers, bools, strings, slices, structs and arrays of these. -/
import Derived.Test.YtopikpjagjnbhaaBase
import Derived.ProofKit
import Derived.OpenShut
import Derived.ShutString
import Derived.ChangeOld
import Derived.SizedLaws
import Derived.Deep.Slices
namespace Go.Proofs.Ytopikpjagjnbhaa
open Go.RowKit Go.ChangeShapes Go.WideShapes Go.Deep
inductive Leaf where
  | int (k : IntKind)
  | bool
  | str
  | slice (e : TypeId)
def fieldLeaves (P : Program) (F : TypeId → Option (List Leaf)) : Nat → List Field → Option (List Leaf)
  | _, [] => some []
  | off, f :: fs => if f.offset = off then (F f.type).bind fun l => if l.length = P.cellsOf f.type then (fieldLeaves P F (off + l.length) fs).map (l ++ ·) else none else none
def leaves (P : Program) : Nat → TypeId → Option (List Leaf)
  | 0, _ => none
  | g + 1, t => match P.underlying t with
    | some .bool => some [.bool]
    | some (.int k) => some [.int k]
    | some .string => some [.str]
    | some (.slice e) => some [.slice e]
    | some (.struct fs) => (fieldLeaves P (leaves P g) 0 fs.toList).bind fun l => if l.length = P.cellsOf t then some l else none
    | some (.array n e) => (leaves P g e).bind fun l => if l.length = P.cellsOf e ∧ n * l.length = P.cellsOf t then some (List.replicate n l).flatten else none
    | _ => none
def AllOk (p : Leaf → Value → Prop) : List Leaf → List Value → Prop
  | [], [] => True
  | l :: ls, v :: vs => p l v ∧ AllOk p ls vs
  | _, _ => False
/-- A row of elements. -/
structure RowOk (q : List Value → Prop) (w : World) (sz : Nat) (A : Option Addr) (len cap : Nat) (rows : List (List Value)) : Prop where
  le : len ≤ cap
  max : cap ≤ maxLen
  nil : A = none → cap = 0
  n : rows.length = len
  el : ∀ r ∈ rows, r.length = sz ∧ q r
  cell : ∀ ad, A = some ad → ∀ (i : Nat) r, rows[i]? = some r → ∀ (j : Nat) u, r[j]? = some u → w.cell? (ad.add (i * sz + j)) = some u
def LeafOk (P : Program) (w : World) : Nat → Leaf → Value → Prop
  | _, .int k, v => ∃ n, v = .int k n ∧ (Lit.int k n).wf = true
  | _, .bool, v => ∃ b, v = .bool b
  | _, .str, v => ∃ s : ByteArray, v = .string s ∧ s.size ≤ maxLen
  | 0, .slice _, v => ∃ A len cap, v = .slice A len cap
  | d + 1, .slice e, v => ∃ A len cap rows, v = .slice A len cap ∧ RowOk (fun r => ∀ ls, leaves P 6 e = some ls → AllOk (LeafOk P w d) ls r) w (P.cellsOf e) A len cap rows
theorem allOk_nil {p : Leaf → Value → Prop} {vs : List Value} (h : AllOk p [] vs) : vs = [] := by
  cases vs with
  | nil => rfl
  | cons v vs => exact h.elim
theorem allOk_cons {p : Leaf → Value → Prop} {l : Leaf} {ls : List Leaf} {vs : List Value} (h : AllOk p (l :: ls) vs) : ∃ v vs', vs = v :: vs' ∧ p l v ∧ AllOk p ls vs' := by
  cases vs with
  | nil => exact h.elim
  | cons v vs => exact ⟨v, vs, rfl, h.1, h.2⟩
theorem allOk_append {p : Leaf → Value → Prop} : ∀ {ls ls' : List Leaf} {vs vs' : List Value}, AllOk p ls vs → AllOk p ls' vs' → AllOk p (ls ++ ls') (vs ++ vs')
  | [], _, [], _, _, h' => h'
  | [], _, _ :: _, _, h, _ => h.elim
  | _ :: _, _, [], _, h, _ => h.elim
  | _ :: _, _, _ :: _, _, h, h' => ⟨h.1, allOk_append h.2 h'⟩
theorem allOk_length {p : Leaf → Value → Prop} : ∀ {ls : List Leaf} {vs : List Value}, AllOk p ls vs → vs.length = ls.length
  | [], [], _ => rfl
  | [], _ :: _, h => h.elim
  | _ :: _, [], h => h.elim
  | _ :: _, _ :: _, h => by simp [allOk_length h.2]
theorem allOk_take {p : Leaf → Value → Prop} {F : TypeId → Option (List Leaf)} {P : Program} {cs : List Value} : ∀ {fs : List Field} {off : Nat} {ls : List Leaf}, fieldLeaves P F off fs = some ls →
    (∀ f ∈ fs, ∀ l, F f.type = some l → AllOk p l ((cs.drop f.offset).take (P.cellsOf f.type))) → AllOk p ls ((cs.drop off).take ls.length)
  | [], off, ls, h, _ => by
    simp [fieldLeaves] at h
    subst h
    simp [AllOk]
  | f :: fs, off, ls, h, hf => by
    simp only [fieldLeaves] at h
    split at h
    · rename_i ho
      cases hF : F f.type with
      | none => rw [hF] at h; simp at h
      | some l =>
        rw [hF] at h
        simp only [Option.bind_some] at h
        split at h
        · rename_i hl
          cases hR : fieldLeaves P F (off + l.length) fs with
          | none => rw [hR] at h; simp at h
          | some ls' =>
            rw [hR] at h
            simp at h
            subst h
            have h1 := hf f (by simp) l hF
            rw [ho, ← hl] at h1
            have h2 := allOk_take hR (fun f' hf' => hf f' (by simp [hf']))
            have e : (cs.drop off).take (l ++ ls').length = (cs.drop off).take l.length ++ (cs.drop (off + l.length)).take ls'.length := by
              rw [List.length_append, List.take_add, List.drop_drop]
            rw [e]
            exact allOk_append h1 h2
        · cases h
    · cases h
theorem allOk_rep {p : Leaf → Value → Prop} {l : List Leaf} {cs : List Value} : ∀ (n : Nat), (∀ i, i < n → AllOk p l ((cs.drop (i * l.length)).take l.length)) → AllOk p (List.replicate n l).flatten (cs.take (n * l.length))
  | 0, _ => by simp [AllOk]
  | n + 1, h => by
    have h1 := allOk_rep n (fun i hi => h i (by omega))
    have h2 := h n (by omega)
    have e : cs.take ((n + 1) * l.length) = cs.take (n * l.length) ++ (cs.drop (n * l.length)).take l.length := by
      rw [Nat.add_mul, Nat.one_mul, List.take_add]
    rw [e, List.replicate_succ']
    simp only [List.flatten_append, List.flatten_cons, List.flatten_nil, List.append_nil]
    exact allOk_append h1 h2
section
variable {H : Type} {enc : TypeId × Value → H} {P : Program} {w : World} {base : Nat} {spare : Nat → Bool} {held : Bool}
theorem opens_step (d : Nat) (hs : ∀ (f : Nat) (t e : TypeId) (cs : List Value) x, P.underlying t = some (.slice e) → DataW.trod enc P w base spare held f t cs = some x → AllOk (LeafOk P w d) [.slice e] cs) :
    ∀ (g f : Nat) (t : TypeId) (cs : List Value) x (ls : List Leaf), DataW.trod enc P w base spare held f t cs = some x → leaves P g t = some ls → AllOk (LeafOk P w d) ls cs := by
  intro g
  induction g with
  | zero => intro f t cs x ls _ h; simp [leaves] at h
  | succ g ih =>
    intro f t cs x ls h hl
    simp only [leaves] at hl
    cases hu : P.underlying t with
    | none => rw [hu] at hl; simp at hl
    | some u =>
      rw [hu] at hl
      cases u <;> simp at hl
      case bool =>
        subst hl
        obtain ⟨b, rfl, _⟩ := DataW.trod_bool hu h
        exact ⟨by cases d <;> exact ⟨b, rfl⟩, trivial⟩
      case int k =>
        subst hl
        obtain ⟨n, rfl, _, hw⟩ := DataW.trod_int hu h
        exact ⟨by cases d <;> exact ⟨n, rfl, hw⟩, trivial⟩
      case string =>
        subst hl
        obtain ⟨s, rfl, _, hw⟩ := DataW.trod_string hu h
        exact ⟨by cases d <;> exact ⟨s, rfl, hw⟩, trivial⟩
      case slice e =>
        subst hl
        exact hs f t e cs x hu h
      case struct fs =>
        cases hF : fieldLeaves P (leaves P g) 0 fs.toList with
        | none => rw [hF] at hl; simp at hl
        | some l =>
          rw [hF] at hl
          simp at hl
          obtain ⟨hlen, rfl⟩ := hl
          obtain ⟨ys, n', _, _, hcl, hyl, hfd⟩ := DataW.trod_struct hu h
          have h1 := allOk_take (p := LeafOk P w d) (cs := cs) hF (by
            intro f' hf' l' hl'
            obtain ⟨i, hi, rfl⟩ := List.getElem_of_mem hf'
            have hi' : fs[i]? = some fs.toList[i] := by simp at hi ⊢
            have h2 := hfd i _ hi'
            have hy : i < ys.length := by rw [hyl]; simpa using hi
            rw [List.getElem?_eq_getElem hy] at h2
            exact ih n' _ _ _ l' h2 hl')
          rw [List.drop_zero, hlen, ← hcl, List.take_length] at h1
          exact h1
      case array n e =>
        cases hF : leaves P g e with
        | none => rw [hF] at hl; simp at hl
        | some l =>
          rw [hF] at hl
          simp at hl
          obtain ⟨⟨hlen, hn⟩, rfl⟩ := hl
          obtain ⟨ys, n', _, _, hcl, hyl, hfd⟩ := DataW.trod_array hu h
          have h1 := allOk_rep (p := LeafOk P w d) (l := l) (cs := cs) n (by
            intro i hi
            have h2 := hfd i hi
            rw [List.getElem?_eq_getElem (by omega)] at h2
            rw [hlen]
            exact ih n' _ _ _ l h2 hF)
          rw [hn, ← hcl, List.take_length] at h1
          exact h1
theorem opens : ∀ (d g f : Nat) (t : TypeId) (cs : List Value) x (ls : List Leaf), DataW.trod enc P w base spare held f t cs = some x → leaves P g t = some ls → AllOk (LeafOk P w d) ls cs
  | 0 => opens_step 0 fun f t e cs x hu h => by
    rcases DataW.trod_slice hu h with ⟨rfl, _⟩ | ⟨a, len, cap, elems, rest, n, _, rfl, _⟩
    · exact ⟨⟨none, 0, 0, rfl⟩, trivial⟩
    · exact ⟨⟨some a, len, cap, rfl⟩, trivial⟩
  | d + 1 => opens_step (d + 1) fun f t e cs x hu h => by
    rcases open_slice hu h with ⟨rfl, _⟩ | ⟨a, len, cap, m, n, D, Pl, rfl, _, hl, hm, hmm, _, hi⟩
    · refine ⟨⟨none, 0, 0, [], rfl, Nat.le_refl _, Nat.zero_le _, fun _ => rfl, rfl, by simp, fun ad e => by cases e⟩, trivial⟩
    · have hlm : len ≤ m := by rw [hmm]; split <;> omega
      have hch : ∀ i, ∃ cs', i < len → w.cells? base (a.add (i * P.cellsOf e)) (P.cellsOf e) = some cs' ∧ DataW.trod enc P w base spare held n e cs' = some (D i, Pl i) := by
        intro i
        by_cases h : i < len
        · obtain ⟨cs', h1, h2⟩ := hi i (by omega)
          exact ⟨cs', fun _ => ⟨h1, h2⟩⟩
        · exact ⟨[], fun h' => absurd h' h⟩
      let R : Nat → List Value := fun i => Classical.choose (hch i)
      have hR : ∀ i, i < len → w.cells? base (a.add (i * P.cellsOf e)) (P.cellsOf e) = some (R i) ∧ DataW.trod enc P w base spare held n e (R i) = some (D i, Pl i) := fun i => Classical.choose_spec (hch i)
      refine ⟨⟨some a, len, cap, (List.range len).map R, rfl, hl, hm, (fun e => by cases e), by simp, ?_, ?_⟩, trivial⟩
      · intro r hr
        obtain ⟨i, hi', rfl⟩ := List.mem_map.1 hr
        have hlt : i < len := by simpa using hi'
        obtain ⟨h1, h2⟩ := hR i hlt
        obtain ⟨_, hc, _⟩ := World.cells?_some h1
        exact ⟨hc, fun ls hls => opens d 6 n e (R i) _ ls h2 hls⟩
      · intro ad hE i r hr j u hj
        cases hE
        rw [List.getElem?_map] at hr
        by_cases hlt : i < len
        · simp [hlt] at hr
          subst hr
          obtain ⟨h1, _⟩ := hR i hlt
          obtain ⟨_, hc, hcell⟩ := World.cells?_some h1
          have hjl : j < P.cellsOf e := by rw [← hc]; exact (List.getElem?_eq_some_iff.1 hj).1
          rw [← Go.Deep.add_add, hcell j hjl]
          exact hj
        · simp [hlt] at hr
end
theorem flat_get {rows : List (List Value)} {sz : Nat} (hs : ∀ r ∈ rows, r.length = sz) : ∀ (q : Nat) u, rows.flatten[q]? = some u → ∃ i r j, q = i * sz + j ∧ rows[i]? = some r ∧ r[j]? = some u := by
  induction rows with
  | nil => intro q u h; simp at h
  | cons r rows ih =>
    intro q u h
    rw [List.flatten_cons] at h
    have hr := hs r (by simp)
    by_cases hq : q < r.length
    · rw [List.getElem?_append_left hq] at h
      exact ⟨0, r, q, by omega, rfl, h⟩
    · rw [List.getElem?_append_right (by omega)] at h
      obtain ⟨i, r', j, he, h1, h2⟩ := ih (fun r' hr' => hs r' (by simp [hr'])) _ _ h
      exact ⟨i + 1, r', j, by rw [Nat.add_mul]; omega, by simpa using h1, h2⟩
theorem flat_len {rows : List (List Value)} {sz : Nat} (hs : ∀ r ∈ rows, r.length = sz) : rows.flatten.length = rows.length * sz := by
  induction rows with
  | nil => simp
  | cons r rows ih =>
    rw [List.flatten_cons, List.length_append, hs r (by simp), ih (fun r' hr' => hs r' (by simp [hr'])), List.length_cons, Nat.add_mul]
    omega
theorem RowOk.rds {q : List Value → Prop} {w : World} {sz : Nat} {A : Option Addr} {len cap : Nat} {rows : List (List Value)} (h : RowOk q w sz A len cap rows) : Rds w sz A len cap rows.flatten :=
  ⟨by rw [flat_len (fun r hr => (h.el r hr).1), h.n], h.le, h.max, h.nil, fun ad e j u hj => by
    obtain ⟨i, r, j', rfl, h1, h2⟩ := flat_get (fun r hr => (h.el r hr).1) j u hj
    exact h.cell ad e i r h1 j' u h2⟩
/-- What each row is, all are. -/
theorem rows_map {α : Type} {f : α → List Value} {good : α → Prop} : ∀ {rows : List (List Value)}, (∀ r ∈ rows, ∃ a, r = f a ∧ good a) → ∃ l : List α, rows = l.map f ∧ ∀ a ∈ l, good a
  | [], _ => ⟨[], rfl, by simp⟩
  | r :: rows, h => by
    obtain ⟨a, rfl, ha⟩ := h r (by simp)
    obtain ⟨l, rfl, hl⟩ := rows_map (f := f) (good := good) (rows := rows) (fun r' hr' => h r' (by simp [hr']))
    exact ⟨a :: l, rfl, by simpa using ⟨ha, hl⟩⟩
/-- A slice of whole numbers. -/
theorem leaf_nums {P : Program} {w : World} {d : Nat} {e : TypeId} {k : IntKind} {v : Value} (hc : P.cellsOf e = 1) (hl : leaves P 6 e = some [.int k]) (h : LeafOk P w (d + 1) (.slice e) v) :
    ∃ A n c xs, v = .slice A n c ∧ Rds w 1 A n c (nums k xs) ∧ ∀ x ∈ xs, (Lit.int k x).wf = true := by
  obtain ⟨A, n, c, rows, rfl, hr⟩ := h
  obtain ⟨xs, rfl, hx⟩ := rows_map (f := fun x => [Value.int k x]) (good := fun x => (Lit.int k x).wf = true) (rows := rows) (by
    intro r hr'
    have h1 := (hr.el r hr').2 _ hl
    obtain ⟨v, vs, rfl, h2, h3⟩ := allOk_cons h1
    have := allOk_nil h3
    subst this
    have h4 : ∃ n, v = .int k n ∧ (Lit.int k n).wf = true := by cases d <;> exact h2
    obtain ⟨n, rfl, hw⟩ := h4
    exact ⟨n, rfl, hw⟩)
  have := hr.rds
  rw [hc] at this
  refine ⟨A, n, c, xs, rfl, ?_, hx⟩
  have e : (xs.map fun x => [Value.int k x]).flatten = nums k xs := by
    clear this hr hx
    induction xs with
    | nil => rfl
    | cons x xs ih =>
      simp [nums] at ih ⊢
      exact ih
  rw [e] at this
  exact this
end Go.Proofs.Ytopikpjagjnbhaa
