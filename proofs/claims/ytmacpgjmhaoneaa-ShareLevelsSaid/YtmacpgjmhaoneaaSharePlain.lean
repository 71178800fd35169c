/- Cores parted among claims: plain. -/
import Derived.WalkKit
namespace Go.Proofs.Ytmacpgjmhaoneaa
structure Cl where
  weight : Int
  demand : Int
deriving DecidableEq, Inhabited
def wrongC (c : Cl) : Bool := decide (c.weight < 1) || decide (65536 < c.weight) || decide (c.demand < 0) || decide (64 < c.demand)
def goodC (l : List Cl) : Bool := decide (l.length ≤ 64) && !l.any wrongC
theorem goodC_iff {l : List Cl} : goodC l = true ↔ l.length ≤ 64 ∧ ∀ c ∈ l, 1 ≤ c.weight ∧ c.weight ≤ 65536 ∧ 0 ≤ c.demand ∧ c.demand ≤ 64 := by
  unfold goodC
  simp only [Bool.and_eq_true, decide_eq_true_eq, Bool.not_eq_true', List.any_eq_false]
  constructor
  · rintro ⟨h1, h2⟩
    refine ⟨h1, fun c hc => ?_⟩
    have := h2 c hc
    simp only [wrongC, Bool.or_eq_true, decide_eq_true_eq, not_or] at this
    omega
  · rintro ⟨h1, h2⟩
    refine ⟨h1, fun c hc => ?_⟩
    have := h2 c hc
    simp only [wrongC, Bool.or_eq_true, decide_eq_true_eq, not_or]
    omega
/-- Is one behind another one, for its weight? -/
def lessC (l : List Cl) (x : List Int) (i j : Nat) : Bool := decide (x.getD i 0 * (l.getD j default).weight < x.getD j 0 * (l.getD i default).weight)
def hungryC (l : List Cl) (x : List Int) (i : Nat) : Bool := decide (x.getD i 0 < (l.getD i default).demand)
/-- Who gets a core next: a place, or none. -/
def stepC (l : List Cl) (x : List Int) (best : Option Nat) (i : Nat) : Option Nat :=
  if hungryC l x i then (match best with | none => some i | some b => if lessC l x i b then some i else some b) else best
def nextC (l : List Cl) (x : List Int) (order : List Nat) : Option Nat := order.foldl (stepC l x) none
theorem nextC_snoc (l : List Cl) (x : List Int) (order : List Nat) (i : Nat) : nextC l x (order ++ [i]) = stepC l x (nextC l x order) i := by simp [nextC]
/-- Places from a start on, round. -/
def roundC (n at_ : Nat) : List Nat := (List.range n).map fun k => (at_ + k) % n
theorem nextC_mem (l : List Cl) (x : List Int) : ∀ (order : List Nat) (b : Nat), nextC l x order = some b → b ∈ order ∧ hungryC l x b = true := by
  have : ∀ (order : List Nat) (best : Option Nat) (b : Nat), order.foldl (stepC l x) best = some b → (best = some b) ∨ (b ∈ order ∧ hungryC l x b = true) := by
    intro order
    induction order with
    | nil => intro best b h; exact .inl h
    | cons i order ih =>
      intro best b h
      rcases ih _ b h with h1 | ⟨h1, h2⟩
      · unfold stepC at h1
        by_cases hh : hungryC l x i = true
        · rw [if_pos hh] at h1
          cases best with
          | none => simp at h1; subst h1; exact .inr ⟨by simp, hh⟩
          | some c =>
            simp only at h1
            split at h1
            · simp at h1; subst h1; exact .inr ⟨by simp, hh⟩
            · exact .inl h1
        · rw [if_neg hh] at h1
          exact .inl h1
      · exact .inr ⟨by simp [h1], h2⟩
  intro order b h
  rcases this order none b h with h1 | h1
  · cases h1
  · exact h1
theorem nextC_none (l : List Cl) (x : List Int) : ∀ (order : List Nat), nextC l x order = none → ∀ i ∈ order, hungryC l x i = false := by
  have some_stays : ∀ (order : List Nat) (b : Nat), order.foldl (stepC l x) (some b) ≠ none := by
    intro order
    induction order with
    | nil => intro b h; cases h
    | cons i order ih =>
      intro b h
      simp only [List.foldl_cons] at h
      have : ∃ c, stepC l x (some b) i = some c := by
        unfold stepC
        split
        · simp only
          split
          · exact ⟨_, rfl⟩
          · exact ⟨_, rfl⟩
        · exact ⟨_, rfl⟩
      obtain ⟨c, hc⟩ := this
      rw [hc] at h
      exact ih c h
  intro order
  induction order with
  | nil => intro _ i hi; cases hi
  | cons j order ih =>
    intro h i hi
    simp only [nextC, List.foldl_cons] at h
    have hj : hungryC l x j = false := by
      cases hh : hungryC l x j with
      | false => rfl
      | true =>
        have : stepC l x none j = some j := by unfold stepC; rw [if_pos hh]
        rw [this] at h
        exact absurd h (some_stays _ _)
    have hs : stepC l x none j = none := by unfold stepC; rw [hj]; rfl
    rw [hs] at h
    rcases List.mem_cons.1 hi with rfl | hi'
    · exact hj
    · exact ih h i hi'
/-- One core more. -/
def incC (x : List Int) (i : Nat) : List Int := x.set i (x.getD i 0 + 1)
/-- So many cores, one by one. -/
def divC (l : List Cl) (order : List Nat) : Nat → List Int → List Int
  | 0, x => x
  | n + 1, x => match nextC l x order with
    | none => x
    | some i => divC l order n (incC x i)
theorem incC_length (x : List Int) (i : Nat) : (incC x i).length = x.length := by simp [incC]
theorem divC_length (l : List Cl) (order : List Nat) : ∀ (n : Nat) (x : List Int), (divC l order n x).length = x.length
  | 0, _ => rfl
  | n + 1, x => by
    unfold divC
    split
    · rfl
    · rw [divC_length l order n, incC_length]
/-- The last one of so many. -/
def oneC (l : List Cl) (order : List Nat) (x : List Int) : List Int := match nextC l x order with | none => x | some i => incC x i
theorem divC_stop (l : List Cl) (order : List Nat) (x : List Int) (h : nextC l x order = none) : ∀ n, divC l order n x = x
  | 0 => rfl
  | n + 1 => by unfold divC; rw [h]
theorem divC_succ (l : List Cl) (order : List Nat) : ∀ (n : Nat) (x : List Int), divC l order (n + 1) x = oneC l order (divC l order n x)
  | 0, x => by
    unfold divC oneC
    split
    · rfl
    · rfl
  | n + 1, x => by
    rw [divC.eq_def l order (n + 1 + 1) x]
    simp only
    cases h : nextC l x order with
    | none =>
      simp only
      rw [divC_stop l order x h]
      unfold oneC
      rw [h]
    | some i =>
      simp only
      rw [divC_succ l order n (incC x i)]
      congr 1
      rw [divC.eq_def l order (n + 1) x]
      simp only [h]
def divideC (cores : Nat) (l : List Cl) (at_ : Nat) : List Int := divC l (roundC l.length at_) cores (List.replicate l.length 0)
end Go.Proofs.Ytmacpgjmhaoneaa
