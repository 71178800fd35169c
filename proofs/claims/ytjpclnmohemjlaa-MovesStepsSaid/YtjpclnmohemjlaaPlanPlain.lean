/- Plans: which cores go where: plain lists, no program. -/
import Derived.Test.YtjpclnmohemjlaaMovesPlain
namespace Go.Proofs.Ytjpclnmohemjlaa
open Go.RowKit
def enoughB : Int → List Int → Bool
  | _, [] => true
  | c, t :: ts => if c < t then false else enoughB (c - t) ts
def takeC (os : List Int) (out : List Int) (c : Nat) (o : Int) : List Int := if os[c]? = some o then out ++ [(c : Int)] else out
theorem takeC_length (os out : List Int) (c : Nat) (o : Int) : (takeC os out c o).length ≤ out.length + 1 := by
  unfold takeC
  split <;> simp
def freeC (os : List Int) : Nat → List Int
  | 0 => []
  | k + 1 => takeC os (freeC os k) k 0
theorem freeC_length (os : List Int) : ∀ k, (freeC os k).length ≤ k
  | 0 => Nat.le_refl _
  | k + 1 => by
    have := freeC_length os k
    have := takeC_length os (freeC os k) k 0
    simp only [freeC]
    omega
def downC (os : List Int) (o : Int) (least : Nat) : Nat → List Int → List Int
  | 0, out => out
  | c + 1, out => if out.length < least then downC os o least c (takeC os out c o) else out
theorem downC_stop (os : List Int) (o : Int) (least : Nat) : ∀ (c : Nat) (out : List Int), least ≤ out.length → downC os o least c out = out
  | 0, _, _ => rfl
  | c + 1, out, h => by simp only [downC]; rw [if_neg (by omega)]
theorem downC_length (os : List Int) (o : Int) (least : Nat) : ∀ (c : Nat) (out : List Int), (downC os o least c out).length ≤ max least out.length
  | 0, out => by simp only [downC]; omega
  | c + 1, out => by
    simp only [downC]
    split
    · have := downC_length os o least c (takeC os out c o)
      have := takeC_length os out c o
      omega
    · omega
def moreC (os : List Int) : Nat → List Int → List Int → List Int
  | _, [], out => out
  | i, k :: ks, out => moreC os (i + 1) ks (downC os ((i : Int) + 1) (out.length + k.toNat) os.length out)
def coresV (os more : List Int) : List Int := moreC os 0 more (freeC os os.length)
theorem moreC_drop (os more : List Int) (i : Nat) (out : List Int) (k : Int) (h : more[i]? = some k) :
    moreC os i (more.drop i) out = moreC os (i + 1) (more.drop (i + 1)) (downC os ((i : Int) + 1) (out.length + k.toNat) os.length out) := by
  obtain ⟨hi, rfl⟩ := List.getElem?_eq_some_iff.1 h
  rw [List.drop_eq_getElem_cons hi]
  rfl
def InC (os : List Int) (l : List Int) : Prop := ∀ c ∈ l, 0 ≤ c ∧ c < (os.length : Int)
theorem takeC_in {os out : List Int} {c : Nat} {o : Int} (h : InC os out) : InC os (takeC os out c o) := by
  unfold takeC
  split
  · rename_i hc
    have hlt : c < os.length := (List.getElem?_eq_some_iff.1 hc).1
    intro x hx
    simp only [List.mem_append, List.mem_singleton] at hx
    rcases hx with hx | rfl
    · exact h x hx
    · omega
  · exact h
theorem freeC_in (os : List Int) : ∀ k, InC os (freeC os k)
  | 0 => fun c hc => by simp [freeC] at hc
  | k + 1 => takeC_in (freeC_in os k)
theorem downC_in (os : List Int) (o : Int) (least : Nat) : ∀ (c : Nat) (out : List Int), InC os out → InC os (downC os o least c out)
  | 0, _, h => h
  | c + 1, out, h => by
    simp only [downC]
    split
    · exact downC_in os o least c _ (takeC_in h)
    · exact h
theorem moreC_in (os : List Int) : ∀ (ks : List Int) (i : Nat) (out : List Int), InC os out → InC os (moreC os i ks out)
  | [], _, _, h => h
  | _ :: ks, i, _, h => moreC_in os ks (i + 1) _ (downC_in os _ _ _ _ h)
theorem coresV_in (os more : List Int) : InC os (coresV os more) := moreC_in os more 0 _ (freeC_in os _)
/-- The places from space s on. -/
def placesF : Nat → List Int → List Int
  | _, [] => []
  | s, k :: ks => List.replicate k.toNat ((s : Int) + 1) ++ placesF (s + 1) ks
def placesV (lack : List Int) : List Int := placesF 0 lack
theorem placesF_drop (lack : List Int) (s : Nat) (k : Int) (h : lack[s]? = some k) : placesF s (lack.drop s) = List.replicate k.toNat ((s : Int) + 1) ++ placesF (s + 1) (lack.drop (s + 1)) := by
  obtain ⟨hi, rfl⟩ := List.getElem?_eq_some_iff.1 h
  rw [List.drop_eq_getElem_cons hi]
  rfl
structure Mv where
  core : Int
  from_ : Int
  to : Int
deriving DecidableEq, Inhabited
def mvC (m : Mv) : List Value := [.int .i64 m.core, .int .i64 m.from_, .int .i64 m.to]
def mvs (l : List Mv) : List Value := l.flatMap mvC
theorem mvs_nil : mvs [] = [] := rfl
theorem mvs_append (l l' : List Mv) : mvs (l ++ l') = mvs l ++ mvs l' := by simp [mvs]
theorem mvs_one (m : Mv) : mvs [m] = mvC m := by simp [mvs]
theorem mvs_length : ∀ l : List Mv, (mvs l).length = l.length * 3
  | [] => rfl
  | m :: l => by
    have := mvs_length l
    simp only [mvs, List.flatMap_cons, List.length_append, List.length_cons] at this ⊢
    rw [this]
    simp [mvC]
    omega
theorem mvs_get : ∀ (l : List Mv) (i : Nat) (m : Mv), l[i]? = some m → ∀ j u, (mvC m)[j]? = some u → (mvs l)[i * 3 + j]? = some u
  | [], i, m, h => by simp at h
  | a :: l, 0, m, h => fun j u hj => by
    simp at h
    subst h
    have hl : j < (mvC a).length := (List.getElem?_eq_some_iff.1 hj).1
    simp only [mvs, List.flatMap_cons, Nat.zero_mul, Nat.zero_add]
    rw [List.getElem?_append_left hl]
    exact hj
  | a :: l, i + 1, m, h => fun j u hj => by
    have h2 := mvs_get l i m (by simpa using h) j u hj
    simp only [mvs, List.flatMap_cons] at h2 ⊢
    have h3 : (mvC a).length = 3 := rfl
    rw [List.getElem?_append_right (by omega), h3, show (i + 1) * 3 + j - 3 = i * 3 + j from by omega]
    exact h2
/-- The moves of the cores cs, to the places ps and then to 0. -/
def movesC (os : List Int) : List Int → List Int → List Mv
  | [], _ => []
  | c :: cs, ps =>
    let to := ps.headD 0
    let o := (os[c.toNat]?).getD 0
    (if to = o then [] else [⟨c, o, to⟩]) ++ movesC os cs ps.tail
def planV (os ts : List Int) : List Mv := if rightB os ts && enoughB os.length ts then movesC os (coresV os (needV os ts).1) (placesV (needV os ts).2) else []
def applyM (out : List Int) (m : Mv) : List Int := if 0 ≤ m.core ∧ out[m.core.toNat]? = some m.from_ then out.set m.core.toNat m.to else out
def applyV (os : List Int) (l : List Mv) : List Int := l.foldl applyM os
theorem applyM_length (out : List Int) (m : Mv) : (applyM out m).length = out.length := by
  unfold applyM
  split <;> simp
theorem applyV_length (l : List Mv) : ∀ os, (applyV os l).length = os.length := by
  induction l with
  | nil => intro os; rfl
  | cons m l ih => intro os; simp only [applyV, List.foldl_cons] at ih ⊢; rw [ih, applyM_length]
end Go.Proofs.Ytjpclnmohemjlaa
