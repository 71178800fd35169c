/- Weights that are so many times as great, and a claim without a demand: plain. -/
import Derived.Test.YtmacpgjmhaoneaaShareAllPlain
namespace Go.Proofs.Ytmacpgjmhaoneaa
def scaleC (n : Int) (c : Cl) : Cl := ⟨c.weight * n, c.demand⟩
def longC (n : Int) (l : List Cl) : List Cl := l.map (scaleC n) ++ [⟨1, 0⟩]
theorem longC_get {n : Int} {l : List Cl} {i : Nat} (h : i < l.length) : (longC n l).getD i default = scaleC n (l.getD i default) := by
  simp [longC, List.getD_eq_getElem?_getD, List.getElem?_append_left (show i < (l.map (scaleC n)).length by simpa using h), h]
theorem longC_last (n : Int) (l : List Cl) : (longC n l).getD l.length default = ⟨1, 0⟩ := by
  simp [longC, List.getD_eq_getElem?_getD]
theorem app_get {x : List Int} {i : Nat} (h : i < x.length) : (x ++ [0]).getD i 0 = x.getD i 0 := by
  simp [List.getD_eq_getElem?_getD, List.getElem?_append_left h]
theorem app_last (x : List Int) : (x ++ [0]).getD x.length 0 = 0 := by simp [List.getD_eq_getElem?_getD]
theorem less_scale {n : Int} (hn : 0 < n) (a a' : Int) (c c' : Cl) : decide (a * (scaleC n c').weight < a' * (scaleC n c).weight) = decide (a * c'.weight < a' * c.weight) := by
  have e1 : a * (c'.weight * n) = a * c'.weight * n := (Int.mul_assoc _ _ _).symm
  have e2 : a' * (c.weight * n) = a' * c.weight * n := (Int.mul_assoc _ _ _).symm
  simp only [scaleC, e1, e2]
  rw [Bool.eq_iff_iff]
  simp only [decide_eq_true_eq]
  exact Int.mul_lt_mul_right hn
theorem step_same {n : Int} (hn : 0 < n) {l : List Cl} {x : List Int} (hx : x.length = l.length) {best : Option Nat} (hb : ∀ b, best = some b → b < l.length) {i : Nat} (hi : i < l.length) : stepC (longC n l) (x ++ [0]) best i = stepC l x best i := by
  have hix : i < x.length := by rw [hx]; exact hi
  have h1 : hungryC (longC n l) (x ++ [0]) i = hungryC l x i := by
    unfold hungryC
    rw [longC_get hi, app_get hix]
    rfl
  unfold stepC
  rw [h1]
  cases best with
  | none => rfl
  | some b =>
    have hbl := hb b rfl
    have hbx : b < x.length := by rw [hx]; exact hbl
    have h2 : lessC (longC n l) (x ++ [0]) i b = lessC l x i b := by
      unfold lessC
      rw [longC_get hi, longC_get hbl, app_get hix, app_get hbx]
      exact less_scale hn _ _ _ _
    simp only [h2]
theorem step_lt {l : List Cl} {x : List Int} {best : Option Nat} (hb : ∀ b, best = some b → b < l.length) {i : Nat} (hi : i < l.length) : ∀ b, stepC l x best i = some b → b < l.length := by
  intro b h
  unfold stepC at h
  split at h
  · cases best with
    | none => simp at h; omega
    | some c =>
      simp only at h
      split at h
      · simp at h; omega
      · simp at h; subst h; exact hb _ rfl
  · exact hb b h
theorem next_same {n : Int} (hn : 0 < n) {l : List Cl} {x : List Int} (hx : x.length = l.length) : nextC (longC n l) (x ++ [0]) (roundC (l.length + 1) 0) = nextC l x (roundC l.length 0) := by
  have hr : ∀ m, roundC m 0 = List.range m := by
    intro m
    unfold roundC
    apply List.ext_getElem
    · simp
    · intro i h1 h2
      simp at h1 h2 ⊢
      exact Nat.mod_eq_of_lt h2
  rw [hr, hr, List.range_succ, nextC_snoc]
  have hfold : ∀ (order : List Nat) (best : Option Nat), (∀ b, best = some b → b < l.length) → (∀ i ∈ order, i < l.length) → order.foldl (stepC (longC n l) (x ++ [0])) best = order.foldl (stepC l x) best := by
    intro order
    induction order with
    | nil => intro best _ _; rfl
    | cons i order ih =>
      intro best hb ho
      have hi := ho i (by simp)
      simp only [List.foldl_cons]
      rw [step_same hn hx hb hi]
      exact ih _ (step_lt hb hi) (fun j hj => ho j (by simp [hj]))
  have h1 : nextC (longC n l) (x ++ [0]) (List.range l.length) = nextC l x (List.range l.length) := hfold _ none (by simp) (by simp)
  rw [h1]
  have h2 : hungryC (longC n l) (x ++ [0]) l.length = false := by
    unfold hungryC
    rw [longC_last, ← hx, app_last]
    simp
  unfold stepC
  rw [h2]
  rfl
theorem divide_same {n : Int} (hn : 0 < n) (l : List Cl) : ∀ c, divideC c (longC n l) 0 = divideC c l 0 ++ [0]
  | 0 => by
    have : (longC n l).length = l.length + 1 := by simp [longC]
    unfold divideC
    rw [this]
    simp [divC, List.replicate_succ']
  | c + 1 => by
    have ih := divide_same hn l c
    have hlen : (longC n l).length = l.length + 1 := by simp [longC]
    unfold divideC at ih ⊢
    rw [divC_succ, divC_succ, ih]
    have hx : (divC l (roundC l.length 0) c (List.replicate l.length 0)).length = l.length := by rw [divC_length]; simp
    generalize divC l (roundC l.length 0) c (List.replicate l.length 0) = x at hx ⊢
    unfold oneC
    rw [hlen, next_same hn hx]
    cases h : nextC l x (roundC l.length 0) with
    | none => rfl
    | some i =>
      simp only
      have hi : i < x.length := by
        rw [hx]
        exact roundC_lt (nextC_mem l x _ i h).1
      unfold incC
      rw [app_get hi, List.set_append_left _ _ hi]
end Go.Proofs.Ytmacpgjmhaoneaa
