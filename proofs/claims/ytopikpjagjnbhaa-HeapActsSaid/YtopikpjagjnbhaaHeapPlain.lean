/- The heap, plain: what its functions compute, and that each stands where it must. -/
import Derived.Test.YtopikpjagjnbhaaBase
namespace Go.Proofs.Ytopikpjagjnbhaa
open Go.RowKit
def cmpZ (x y : Int) : Int := if x < y then -1 else if y < x then 1 else 0
/-- order: of two ids. -/
def ordV (ks : List Int) (a b : Nat) : Int := if cmpZ (ks.getD a 0) (ks.getD b 0) ≠ 0 then cmpZ (ks.getD a 0) (ks.getD b 0) else cmpZ a b
/-- by keys, and of one key by their numbers. -/
def leK (ks : List Int) (a b : Nat) : Prop := ks.getD a 0 < ks.getD b 0 ∨ (ks.getD a 0 = ks.getD b 0 ∧ a ≤ b)
def ltK (ks : List Int) (a b : Nat) : Prop := ks.getD a 0 < ks.getD b 0 ∨ (ks.getD a 0 = ks.getD b 0 ∧ a < b)
theorem leK_refl (ks : List Int) (a : Nat) : leK ks a a := by unfold leK; omega
theorem leK_trans {ks : List Int} {a b c : Nat} (h : leK ks a b) (k : leK ks b c) : leK ks a c := by unfold leK at *; omega
theorem ltK_le {ks : List Int} {a b : Nat} (h : ltK ks a b) : leK ks a b := by unfold leK ltK at *; omega
theorem not_leK {ks : List Int} {a b : Nat} (h : ¬ leK ks a b) : ltK ks b a := by unfold leK ltK at *; omega
theorem not_ltK {ks : List Int} {a b : Nat} (h : ¬ ltK ks a b) : leK ks b a := by unfold leK ltK at *; omega
theorem ord_le (ks : List Int) (a b : Nat) : ordV ks a b ≤ 0 ↔ leK ks a b := by
  unfold ordV leK cmpZ
  repeat' split
  all_goals omega
theorem ord_lt (ks : List Int) (a b : Nat) : ordV ks a b < 0 ↔ ltK ks a b := by
  unfold ordV ltK cmpZ
  repeat' split
  all_goals omega
theorem ord_gt (ks : List Int) (a b : Nat) : 0 < ordV ks a b ↔ ltK ks b a := by
  unfold ordV ltK cmpZ
  repeat' split
  all_goals omega
theorem ord_range (ks : List Int) (a b : Nat) : -1 ≤ ordV ks a b ∧ ordV ks a b ≤ 1 := by
  unfold ordV cmpZ
  repeat' split
  all_goals omega
/-- ids as they stand, and places. -/
abbrev HSt := List Nat × List Int
def hputV (s : HSt) (i x : Nat) : HSt := (s.1.set i x, s.2.set x (i : Int))
/-- up: what stands at a place goes up as far as it must. -/
def upV (ks : List Int) (id : Nat) : Nat → Nat → HSt → HSt
  | 0, i, s => hputV s i id
  | f + 1, i, s => if i = 0 then hputV s i id else if ordV ks (s.1.getD ((i - 1) / 2) 0) id ≤ 0 then hputV s i id else upV ks id f ((i - 1) / 2) (hputV s i (s.1.getD ((i - 1) / 2) 0))
/-- the least one below. -/
def belowV (ks : List Int) (i : Nat) (s : HSt) : Nat := if 2 * i + 2 < s.1.length ∧ ordV ks (s.1.getD (2 * i + 2) 0) (s.1.getD (2 * i + 1) 0) < 0 then 2 * i + 2 else 2 * i + 1
def downV (ks : List Int) (id : Nat) : Nat → Nat → HSt → HSt
  | 0, i, s => hputV s i id
  | f + 1, i, s => if s.1.length ≤ 2 * i + 1 then hputV s i id else if ordV ks id (s.1.getD (belowV ks i s) 0) ≤ 0 then hputV s i id else downV ks id f (belowV ks i s) (hputV s i (s.1.getD (belowV ks i s) 0))
/-- Each stands where its place says. -/
structure Bij (n : Nat) (V : List Nat) (P : List Int) : Prop where
  len : P.length = n
  r : ∀ (i x : Nat), V[i]? = some x → x < n ∧ P[x]? = some (i : Int)
  m : ∀ (x : Nat) (p : Int), P[x]? = some p → p = -1 ∨ ∃ i : Nat, p = i ∧ V[i]? = some x
theorem Bij.inj {n : Nat} {V : List Nat} {P : List Int} (h : Bij n V P) {i j x : Nat} (hi : V[i]? = some x) (hj : V[j]? = some x) : i = j := by
  have h1 := (h.r i x hi).2
  have h2 := (h.r j x hj).2
  rw [h1] at h2
  simp only [Option.some.injEq] at h2
  omega
theorem set_get {α : Type} (l : List α) (i j : Nat) (a : α) (h : i < l.length) : (l.set i a)[j]? = if j = i then some a else l[j]? := by
  rw [List.getElem?_set]
  by_cases hj : j = i
  · rw [if_pos hj, if_pos hj.symm, if_pos h]
  · rw [if_neg hj, if_neg (fun e => hj e.symm)]
theorem get_lt {α : Type} {l : List α} {i : Nat} {x : α} (h : l[i]? = some x) : i < l.length := (List.getElem?_eq_some_iff.1 h).1
theorem getD_getH (l : List Nat) (i : Nat) (h : i < l.length) : l[i]? = some (l.getD i 0) := by
  rw [List.getD_eq_getElem?_getD, List.getElem?_eq_getElem h]
  rfl
theorem get_getD {l : List Nat} {i x : Nat} (h : l[i]? = some x) : l.getD i 0 = x := by
  rw [List.getD_eq_getElem?_getD, h]
  rfl
theorem bij_swap {n : Nat} {V : List Nat} {P : List Int} (h : Bij n V P) {i o id x : Nat} (hi : V[i]? = some id) (ho : V[o]? = some x) (hio : i ≠ o) : Bij n ((V.set i x).set o id) ((P.set x i).set id o) := by
  have hil := get_lt hi
  have hol := get_lt ho
  have h1 := h.r i id hi
  have h2 := h.r o x ho
  have hne : id ≠ x := by
    intro e
    subst e
    exact hio (h.inj hi ho)
  have hl := h.len
  have eV : ∀ j, ((V.set i x).set o id)[j]? = if j = o then some id else if j = i then some x else V[j]? := fun j => by
    rw [set_get _ _ _ _ (by rw [List.length_set]; exact hol), set_get _ _ _ _ hil]
  have eP : ∀ y, ((P.set x i).set id o)[y]? = if y = id then some (o : Int) else if y = x then some (i : Int) else P[y]? := fun y => by
    rw [set_get _ _ _ _ (by rw [List.length_set]; omega), set_get _ _ _ _ (by omega)]
  refine ⟨by rw [List.length_set, List.length_set]; exact hl, ?_, ?_⟩
  · intro j y hy
    rw [eV] at hy
    rw [eP]
    by_cases hjo : j = o
    · subst hjo
      rw [if_pos rfl] at hy
      cases hy
      exact ⟨h1.1, by rw [if_pos rfl]⟩
    · rw [if_neg hjo] at hy
      by_cases hji : j = i
      · subst hji
        rw [if_pos rfl] at hy
        cases hy
        exact ⟨h2.1, by rw [if_neg (fun e => hne e.symm), if_pos rfl]⟩
      · rw [if_neg hji] at hy
        have h3 := h.r j y hy
        refine ⟨h3.1, ?_⟩
        rw [if_neg, if_neg]
        · exact h3.2
        · intro e
          subst e
          exact hjo (h.inj hy ho)
        · intro e
          subst e
          exact hji (h.inj hy hi)
  · intro y p hp
    rw [eP] at hp
    by_cases hy1 : y = id
    · rw [if_pos hy1] at hp
      cases hp
      exact .inr ⟨o, rfl, by rw [eV, if_pos rfl, hy1]⟩
    · rw [if_neg hy1] at hp
      by_cases hy2 : y = x
      · rw [if_pos hy2] at hp
        cases hp
        exact .inr ⟨i, rfl, by rw [eV, if_neg hio, if_pos rfl, hy2]⟩
      · rw [if_neg hy2] at hp
        rcases h.m y p hp with h3 | ⟨k, hk, h3⟩
        · exact .inl h3
        · refine .inr ⟨k, hk, ?_⟩
          rw [eV, if_neg, if_neg]
          · exact h3
          · intro e
            subst e
            rw [hi] at h3
            cases h3
            exact hy1 rfl
          · intro e
            subst e
            rw [ho] at h3
            cases h3
            exact hy2 rfl
/-- Who is over whom. -/
def OrdH (ks : List Int) (V : List Nat) : Prop := ∀ j x y, 0 < j → V[(j - 1) / 2]? = some x → V[j]? = some y → leK ks x y
structure FixI (ks : List Int) (V : List Nat) (i : Nat) : Prop where
  a : ∀ j x y, 0 < j → j ≠ i → (j - 1) / 2 ≠ i → V[(j - 1) / 2]? = some x → V[j]? = some y → leK ks x y
  b : ∀ j x y, 0 < i → 0 < j → (j - 1) / 2 = i → V[(i - 1) / 2]? = some x → V[j]? = some y → leK ks x y
structure DownI (ks : List Int) (V : List Nat) (i : Nat) : Prop where
  a : ∀ j x y, 0 < j → (j - 1) / 2 ≠ i → V[(j - 1) / 2]? = some x → V[j]? = some y → leK ks x y
  b : ∀ j x y, 0 < i → 0 < j → (j - 1) / 2 = i → V[(i - 1) / 2]? = some x → V[j]? = some y → leK ks x y
def ChildI (ks : List Int) (V : List Nat) (i : Nat) : Prop := ∀ j x y, 0 < j → (j - 1) / 2 = i → V[i]? = some x → V[j]? = some y → leK ks x y
theorem down_child {ks : List Int} {V : List Nat} {i : Nat} (h : DownI ks V i) (c : ChildI ks V i) : OrdH ks V := by
  intro j x y hj hx hy
  by_cases hp : (j - 1) / 2 = i
  · exact c j x y hj hp (hp ▸ hx) hy
  · exact h.a j x y hj hp hx hy
theorem up_step {ks : List Int} {V : List Nat} {i id x : Nat} (h : FixI ks V i) (hi0 : 0 < i) (hi : V[i]? = some id) (ho : V[(i - 1) / 2]? = some x) (hl : ltK ks id x) :
    FixI ks ((V.set i x).set ((i - 1) / 2) id) ((i - 1) / 2) ∧ ChildI ks ((V.set i x).set ((i - 1) / 2) id) ((i - 1) / 2) := by
  have hil := get_lt hi
  have hol := get_lt ho
  have eV : ∀ j, ((V.set i x).set ((i - 1) / 2) id)[j]? = if j = (i - 1) / 2 then some id else if j = i then some x else V[j]? := fun j => by
    rw [set_get _ _ _ _ (by rw [List.length_set]; exact hol), set_get _ _ _ _ hil]
  refine ⟨⟨?_, ?_⟩, ?_⟩
  · intro j u v hj hjo hpo hu hv
    rw [eV, if_neg hpo] at hu
    rw [eV, if_neg hjo] at hv
    have hji : j ≠ i := fun e => hpo (by rw [e])
    rw [if_neg hji] at hv
    by_cases hpi : (j - 1) / 2 = i
    · rw [if_pos hpi] at hu
      cases hu
      exact h.b j _ v hi0 hj hpi ho hv
    · rw [if_neg hpi] at hu
      exact h.a j u v hj hji hpi hu hv
  · intro j u v ho0 hj hpj hu hv
    rw [eV, if_neg (by omega), if_neg (by omega)] at hu
    rw [eV, if_neg (by omega)] at hv
    have h1 : leK ks u x := h.a ((i - 1) / 2) u x ho0 (by omega) (by omega) hu ho
    by_cases hji : j = i
    · rw [if_pos hji] at hv
      cases hv
      exact h1
    · rw [if_neg hji] at hv
      exact leK_trans h1 (h.a j x v hj hji (by omega) (hpj ▸ ho) hv)
  · intro j u v hj hpj hu hv
    rw [eV, if_pos rfl] at hu
    cases hu
    rw [eV, if_neg (by omega)] at hv
    by_cases hji : j = i
    · rw [if_pos hji] at hv
      cases hv
      exact ltK_le hl
    · rw [if_neg hji] at hv
      exact leK_trans (ltK_le hl) (h.a j x v hj hji (by omega) (hpj ▸ ho) hv)
/-- What a step leaves is the row with two of it changed. -/
theorem put_V (s : HSt) (i o id x : Nat) : ((s.1.set i id).set i x).set o id = (s.1.set i x).set o id := by rw [List.set_set]
theorem put_P (s : HSt) (i o id x : Nat) (h : id ≠ x) : ((s.2.set id (i : Int)).set x (i : Int)).set id (o : Int) = (s.2.set x (i : Int)).set id (o : Int) := by
  rw [List.set_comm _ _ h, List.set_set]
structure UpQ (n : Nat) (ks : List Int) (id : Nat) (s : HSt) (i : Nat) (r : HSt) : Prop where
  bij : Bij n r.1 r.2
  len : r.1.length = s.1.length
  same : ∀ (x : Nat), r.2[x]? = some (-1) ↔ (s.2.set id (i : Int))[x]? = some (-1)
  there : ∃ k, k < s.1.length ∧ r.1[k]? = some id ∧ DownI ks r.1 k
  all : ChildI ks (s.1.set i id) i → OrdH ks r.1
theorem same_step {s : HSt} {i o id x : Nat} (hx : x < s.2.length) (hd : id < s.2.length) (hpx : s.2[x]? ≠ some (-1)) (y : Nat) :
    ((s.2.set x (i : Int)).set id (o : Int))[y]? = some (-1) ↔ (s.2.set id (i : Int))[y]? = some (-1) := by
  rw [set_get _ _ _ _ (by rw [List.length_set]; exact hd), set_get _ _ _ _ hx, set_get _ _ _ _ hd]
  by_cases h1 : y = id
  · rw [if_pos h1, if_pos h1]
    simp only [Option.some.injEq]
    omega
  · rw [if_neg h1, if_neg h1]
    by_cases h2 : y = x
    · rw [if_pos h2, h2]
      simp only [Option.some.injEq]
      exact ⟨fun e => by omega, fun e => absurd e hpx⟩
    · rw [if_neg h2]
theorem up_ok (n : Nat) (ks : List Int) (id : Nat) (f : Nat) : ∀ (i : Nat) (s : HSt), i ≤ f → i < s.1.length → Bij n (s.1.set i id) (s.2.set id (i : Int)) → FixI ks (s.1.set i id) i → UpQ n ks id s i (upV ks id f i s) := by
  have fin : ∀ (i : Nat) (s : HSt), i < s.1.length → Bij n (s.1.set i id) (s.2.set id (i : Int)) → FixI ks (s.1.set i id) i → (0 < i → ordV ks (s.1.getD ((i - 1) / 2) 0) id ≤ 0) → UpQ n ks id s i (hputV s i id) := by
    intro i s hi hb hf hle
    have hV : (s.1.set i id)[i]? = some id := by rw [set_get _ _ _ _ hi, if_pos rfl]
    have hd : DownI ks (s.1.set i id) i := by
      refine ⟨fun j x y hj hp hx hy => ?_, hf.b⟩
      by_cases hji : j = i
      · subst hji
        rw [hV] at hy
        cases hy
        have h1 := (ord_le ks _ _).1 (hle hj)
        rw [set_get _ _ _ _ hi, if_neg (by omega)] at hx
        rw [get_getD hx] at h1
        exact h1
      · exact hf.a j x y hj hji hp hx hy
    exact ⟨hb, List.length_set .., fun x => Iff.rfl, ⟨i, hi, hV, hd⟩, fun hc => down_child hd hc⟩
  induction f with
  | zero => exact fun i s hf hi hb hF => fin i s hi hb hF (fun h => absurd h (by omega))
  | succ f ih =>
    intro i s hf hi hb hF
    unfold upV
    by_cases h0 : i = 0
    · rw [if_pos h0]
      exact fin i s hi hb hF (fun h => absurd h (by omega))
    · rw [if_neg h0]
      by_cases hle : ordV ks (s.1.getD ((i - 1) / 2) 0) id ≤ 0
      · rw [if_pos hle]
        exact fin i s hi hb hF (fun _ => hle)
      · rw [if_neg hle]
        obtain ⟨x, hx⟩ : ∃ x, s.1.getD ((i - 1) / 2) 0 = x := ⟨_, rfl⟩
        rw [hx] at hle ⊢
        have hol : (i - 1) / 2 < s.1.length := by omega
        have hlt : ltK ks id x := not_leK (fun h => hle ((ord_le ks _ _).2 h))
        have hV : (s.1.set i id)[i]? = some id := by rw [set_get _ _ _ _ hi, if_pos rfl]
        have hO : (s.1.set i id)[(i - 1) / 2]? = some x := by rw [set_get _ _ _ _ hi, if_neg (by omega), getD_getH _ _ hol, hx]
        have hne : id ≠ x := fun e => by
          subst e
          have := hb.inj hV hO
          omega
        have hst := up_step hF (by omega) hV hO hlt
        have hbs := bij_swap hb hV hO (by omega)
        rw [put_V] at hst hbs
        rw [put_P s i _ id x hne] at hbs
        have hidl : id < s.2.length := by have := (hb.r i id hV).1; have := hb.len; rw [List.length_set] at this; omega
        have hxl : x < s.2.length := by have := (hb.r _ x hO).1; have := hb.len; rw [List.length_set] at this; omega
        have hr := ih ((i - 1) / 2) (hputV s i x) (by omega) (by show _ < (s.1.set i x).length; rw [List.length_set]; exact hol) hbs hst.1
        have hpx : s.2[x]? ≠ some (-1) := by
          have h1 := (hb.r _ x hO).2
          rw [set_get _ _ _ _ hidl, if_neg (fun e => hne e.symm)] at h1
          rw [h1]
          simp only [ne_eq, Option.some.injEq]
          omega
        refine ⟨hr.bij, hr.len.trans (List.length_set ..), fun y => (hr.same y).trans (same_step hxl hidl hpx y), ?_, fun _ => hr.all hst.2⟩
        obtain ⟨k, hk, h1⟩ := hr.there
        exact ⟨k, by simpa [hputV] using hk, h1⟩
theorem below_range (ks : List Int) (i : Nat) (s : HSt) (h : ¬ s.1.length ≤ 2 * i + 1) : belowV ks i s < s.1.length ∧ (belowV ks i s - 1) / 2 = i ∧ i < belowV ks i s ∧ 0 < belowV ks i s := by
  unfold belowV
  split <;> omega
/-- the other one below is no less. -/
theorem below_least (ks : List Int) (i : Nat) (s : HSt) (j : Nat) (hj : j < s.1.length) (hj0 : 0 < j) (hp : (j - 1) / 2 = i) : leK ks (s.1.getD (belowV ks i s) 0) (s.1.getD j 0) := by
  have h2 : j = 2 * i + 1 ∨ j = 2 * i + 2 := by omega
  unfold belowV
  by_cases hc : 2 * i + 2 < s.1.length ∧ ordV ks (s.1.getD (2 * i + 2) 0) (s.1.getD (2 * i + 1) 0) < 0
  · rw [if_pos hc]
    rcases h2 with h2 | h2
    · rw [h2]
      exact ltK_le ((ord_lt ks _ _).1 hc.2)
    · rw [h2]
      exact leK_refl _ _
  · rw [if_neg hc]
    rcases h2 with h2 | h2
    · rw [h2]
      exact leK_refl _ _
    · rw [h2]
      exact not_ltK (fun h => hc ⟨by omega, (ord_lt ks _ _).2 h⟩)
theorem down_step {ks : List Int} {V : List Nat} {i b id x : Nat} (h : DownI ks V i) (hi : V[i]? = some id) (hb : V[b]? = some x) (hb0 : 0 < b) (hbi : (b - 1) / 2 = i) (hl : leK ks x id) (hlt : i < b)
    (hm : ∀ j y, 0 < j → (j - 1) / 2 = i → V[j]? = some y → leK ks x y) : DownI ks ((V.set i x).set b id) b := by
  have hil := get_lt hi
  have hbl := get_lt hb
  have eV : ∀ j, ((V.set i x).set b id)[j]? = if j = b then some id else if j = i then some x else V[j]? := fun j => by
    rw [set_get _ _ _ _ (by rw [List.length_set]; exact hbl), set_get _ _ _ _ hil]
  refine ⟨?_, ?_⟩
  · intro j u v hj hpb hu hv
    rw [eV, if_neg hpb] at hu
    rw [eV] at hv
    by_cases hpi : (j - 1) / 2 = i
    · rw [if_pos hpi] at hu
      cases hu
      by_cases hjb : j = b
      · rw [if_pos hjb] at hv
        cases hv
        exact hl
      · rw [if_neg hjb, if_neg (by omega)] at hv
        exact hm j v hj hpi hv
    · rw [if_neg hpi] at hu
      have hjb : j ≠ b := fun e => hpi (by rw [e]; exact hbi)
      rw [if_neg hjb] at hv
      by_cases hji : j = i
      · subst hji
        rw [if_pos rfl] at hv
        cases hv
        exact h.b b u _ hj hb0 hbi hu hb
      · rw [if_neg hji] at hv
        exact h.a j u v hj hpi hu hv
  · intro j u v _ hj hpj hu hv
    rw [eV, if_neg (by omega), if_pos hbi] at hu
    cases hu
    rw [eV, if_neg (by omega), if_neg (by omega)] at hv
    exact h.a j _ v hj (by omega) (hpj ▸ hb) hv
structure DownQ (n : Nat) (ks : List Int) (id : Nat) (s : HSt) (i : Nat) (r : HSt) : Prop where
  bij : Bij n r.1 r.2
  len : r.1.length = s.1.length
  same : ∀ (x : Nat), r.2[x]? = some (-1) ↔ (s.2.set id (i : Int))[x]? = some (-1)
  all : OrdH ks r.1
theorem down_ok (n : Nat) (ks : List Int) (id : Nat) (f : Nat) : ∀ (i : Nat) (s : HSt), s.1.length ≤ i + f → i < s.1.length → Bij n (s.1.set i id) (s.2.set id (i : Int)) → DownI ks (s.1.set i id) i → DownQ n ks id s i (downV ks id f i s) := by
  have fin : ∀ (i : Nat) (s : HSt), i < s.1.length → Bij n (s.1.set i id) (s.2.set id (i : Int)) → DownI ks (s.1.set i id) i → (∀ j, 0 < j → j < s.1.length → (j - 1) / 2 = i → leK ks id (s.1.getD j 0)) → DownQ n ks id s i (hputV s i id) := by
    intro i s hi hb hd hm
    have hV : (s.1.set i id)[i]? = some id := by rw [set_get _ _ _ _ hi, if_pos rfl]
    refine ⟨hb, List.length_set .., fun x => Iff.rfl, down_child hd ?_⟩
    intro j x y hj hp hx hy
    have hx : (s.1.set i id)[i]? = some x := hx
    have hy : (s.1.set i id)[j]? = some y := hy
    rw [hV] at hx
    cases hx
    rw [set_get _ _ _ _ hi, if_neg (by omega)] at hy
    have h1 := hm j hj (get_lt hy) hp
    rw [get_getD hy] at h1
    exact h1
  induction f with
  | zero => exact fun i s hf hi => absurd hi (by omega)
  | succ f ih =>
    intro i s hf hi hb hd
    unfold downV
    by_cases h0 : s.1.length ≤ 2 * i + 1
    · rw [if_pos h0]
      exact fin i s hi hb hd (fun j _ hj hp => absurd hj (by omega))
    · rw [if_neg h0]
      obtain ⟨hbl, hbp, hib, hb0⟩ := below_range ks i s h0
      have hle := below_least ks i s
      obtain ⟨b, he⟩ : ∃ b, belowV ks i s = b := ⟨_, rfl⟩
      rw [he] at hbl hbp hib hb0 hle ⊢
      obtain ⟨x, hx⟩ : ∃ x, s.1.getD b 0 = x := ⟨_, rfl⟩
      rw [hx] at hle ⊢
      by_cases hc : ordV ks id x ≤ 0
      · rw [if_pos hc]
        exact fin i s hi hb hd (fun j hj0 hj hp => leK_trans ((ord_le ks _ _).1 hc) (hle j hj hj0 hp))
      · rw [if_neg hc]
        have hV : (s.1.set i id)[i]? = some id := by rw [set_get _ _ _ _ hi, if_pos rfl]
        have hO : (s.1.set i id)[b]? = some x := by rw [set_get _ _ _ _ hi, if_neg (by omega), getD_getH _ _ hbl, hx]
        have hne : id ≠ x := fun e => by
          subst e
          have := hb.inj hV hO
          omega
        have hst := down_step hd hV hO hb0 hbp (ltK_le (not_leK (fun h => hc ((ord_le ks _ _).2 h)))) hib (fun j y hj hp hy => by
          rw [set_get _ _ _ _ hi, if_neg (by omega)] at hy
          have h1 := hle j (get_lt hy) hj hp
          rw [get_getD hy] at h1
          exact h1)
        have hbs := bij_swap hb hV hO (by omega)
        rw [put_V] at hst hbs
        rw [put_P s i _ id x hne] at hbs
        have hidl : id < s.2.length := by have := (hb.r i id hV).1; have := hb.len; rw [List.length_set] at this; omega
        have hxl : x < s.2.length := by have := (hb.r _ x hO).1; have := hb.len; rw [List.length_set] at this; omega
        have hr := ih b (hputV s i x) (by show (s.1.set i x).length ≤ _; rw [List.length_set]; omega) (by show _ < (s.1.set i x).length; rw [List.length_set]; exact hbl) hbs hst
        have hpx : s.2[x]? ≠ some (-1) := by
          have h1 := (hb.r _ x hO).2
          rw [set_get _ _ _ _ hidl, if_neg (fun e => hne e.symm)] at h1
          rw [h1]
          simp only [ne_eq, Option.some.injEq]
          omega
        exact ⟨hr.bij, hr.len.trans (List.length_set ..), fun y => (hr.same y).trans (same_step hxl hidl hpx y), hr.all⟩
end Go.Proofs.Ytopikpjagjnbhaa
