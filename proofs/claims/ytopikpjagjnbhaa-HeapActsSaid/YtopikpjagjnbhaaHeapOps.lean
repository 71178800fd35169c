/- What is done with a heap, plain. -/
import Derived.Test.YtopikpjagjnbhaaHeapPlain
namespace Go.Proofs.Ytopikpjagjnbhaa
open Go.RowKit
/-- A heap: ids as they stand, keys, places. -/
structure HV where
  ids : List Nat
  ks : List Int
  pl : List Int
/-- Each stands where it must. -/
structure Sd (n : Nat) (h : HV) : Prop where
  klen : h.ks.length = n
  bij : Bij n h.ids h.pl
  ord : OrdH h.ks h.ids
/-- Is an id in it? -/
def hasV (h : HV) (x : Nat) : Prop := ∃ i : Nat, h.ids[i]? = some x
theorem has_iff {n : Nat} {h : HV} (s : Sd n h) (x : Nat) (hx : x < n) : hasV h x ↔ h.pl[x]? ≠ some (-1) := by
  constructor
  · rintro ⟨i, hi⟩
    rw [(s.bij.r i x hi).2]
    simp only [ne_eq, Option.some.injEq]
    omega
  · intro hne
    have hl : x < h.pl.length := by rw [s.bij.len]; exact hx
    rcases s.bij.m x _ (List.getElem?_eq_getElem hl) with h1 | ⟨i, _, h2⟩
    · exact absurd (by rw [List.getElem?_eq_getElem hl, h1]) hne
    · exact ⟨i, h2⟩
theorem has_lt {n : Nat} {h : HV} (s : Sd n h) {x : Nat} (hx : hasV h x) : x < n := by
  obtain ⟨i, hi⟩ := hx
  exact (s.bij.r i x hi).1
/-- fix: what stands at a place goes where it belongs. -/
def fixV (ks : List Int) (i : Nat) (s : HSt) : HSt :=
  let id := s.1.getD i 0
  let r := upV ks id i i s
  downV ks id r.1.length (r.2.getD id 0).toNat r
theorem set_same {α : Type} (l : List α) (i : Nat) (a : α) (h : l[i]? = some a) : l.set i a = l := by
  apply List.ext_getElem?
  intro j
  rw [set_get _ _ _ _ (get_lt' h)]
  by_cases hj : j = i
  · rw [if_pos hj, hj, h]
  · rw [if_neg hj]
where get_lt' {α : Type} {l : List α} {i : Nat} {x : α} (h : l[i]? = some x) : i < l.length := (List.getElem?_eq_some_iff.1 h).1
structure FixQ (n : Nat) (ks : List Int) (s r : HSt) : Prop where
  bij : Bij n r.1 r.2
  len : r.1.length = s.1.length
  same : ∀ (x : Nat), r.2[x]? = some (-1) ↔ s.2[x]? = some (-1)
  all : OrdH ks r.1
theorem fix_ok (n : Nat) (ks : List Int) (i : Nat) (s : HSt) (hi : i < s.1.length) (hb : Bij n s.1 s.2) (hF : FixI ks s.1 i) : FixQ n ks s (fixV ks i s) := by
  have hid := getD_getH s.1 i hi
  unfold fixV
  simp only
  generalize s.1.getD i 0 = id at hid ⊢
  have e1 : s.1.set i id = s.1 := set_same _ _ _ hid
  have e2 : s.2.set id (i : Int) = s.2 := set_same _ _ _ (hb.r i id hid).2
  have hu := up_ok n ks id i i s (Nat.le_refl _) hi (by rw [e1, e2]; exact hb) (by rw [e1]; exact hF)
  generalize upV ks id i i s = r at hu ⊢
  obtain ⟨k, hk, hrk, hd⟩ := hu.there
  have hp := (hu.bij.r k id hrk).2
  have hg : (r.2.getD id 0).toNat = k := by
    rw [List.getD_eq_getElem?_getD, hp]
    simp
  rw [hg]
  have e3 : r.1.set k id = r.1 := set_same _ _ _ hrk
  have e4 : r.2.set id (k : Int) = r.2 := set_same _ _ _ hp
  have hw := down_ok n ks id r.1.length k r (Nat.le_add_left _ _) (by rw [hu.len]; exact hk) (by rw [e3, e4]; exact hu.bij) (by rw [e3]; exact hd)
  refine ⟨hw.bij, hw.len.trans hu.len, fun x => (hw.same x).trans ?_, hw.all⟩
  rw [e4, hu.same x, e2]
/-- Put, of one that may be put. -/
def putV (h : HV) (id : Nat) (key : Int) : HV :=
  let r := upV (h.ks.set id key) id h.ids.length h.ids.length (h.ids ++ [id], h.pl)
  ⟨r.1, h.ks.set id key, r.2⟩
structure Turns (n : Nat) (h r : HV) (ks : List Int) (M : Nat → Prop) (len : Nat) : Prop where
  sd : Sd n r
  ks : r.ks = ks
  has : ∀ x, hasV r x ↔ M x
  len : r.ids.length = len
theorem ord_ks {ks ks' : List Int} {V : List Nat} (h : ∀ (i x : Nat), V[i]? = some x → ks'.getD x 0 = ks.getD x 0) {i j x y : Nat} (hx : V[i]? = some x) (hy : V[j]? = some y) (hl : leK ks x y) : leK ks' x y := by
  unfold leK at *
  rw [h i x hx, h j y hy]
  exact hl
theorem ks_set (ks : List Int) (id x : Nat) (key : Int) (h : x ≠ id) : (ks.set id key).getD x 0 = ks.getD x 0 := by
  rw [List.getD_eq_getElem?_getD, List.getD_eq_getElem?_getD, List.getElem?_set, if_neg (fun e => h e.symm)]
theorem put_ok {n : Nat} {h : HV} (s : Sd n h) (id : Nat) (key : Int) (hid : id < n) (hno : ¬ hasV h id) : Turns n h (putV h id key) (h.ks.set id key) (fun x => hasV h x ∨ x = id) (h.ids.length + 1) := by
  obtain ⟨ids, ks, pl⟩ := h
  have hsk := s.klen
  have hsb := s.bij
  have hso := s.ord
  have hni := (has_iff s id hid)
  simp only at hsk hsb hso hni
  have hpid : pl[id]? = some (-1) := by
    have := Classical.not_not.1 (fun hh => hno (hni.2 hh))
    exact this
  have e1 : (ids ++ [id]).set ids.length id = ids ++ [id] := set_same _ _ _ (by simp)
  have hidl : id < pl.length := by rw [hsb.len]; exact hid
  have hxn : ∀ (i x : Nat), ids[i]? = some x → x ≠ id := fun i x hi e => hno ⟨i, e ▸ hi⟩
  have hlt : ∀ {j x : Nat}, (ids ++ [id])[j]? = some x → j < ids.length ∧ ids[j]? = some x ∨ j = ids.length ∧ x = id := by
    intro j x hj
    have hl := get_lt hj
    rw [List.length_append, List.length_singleton] at hl
    by_cases hjl : j < ids.length
    · rw [List.getElem?_append_left hjl] at hj
      exact .inl ⟨hjl, hj⟩
    · have : j = ids.length := by omega
      subst this
      simp at hj
      exact .inr ⟨rfl, hj.symm⟩
  have hb : Bij n (ids ++ [id]) (pl.set id (ids.length : Int)) := by
    refine ⟨by rw [List.length_set]; exact hsb.len, ?_, ?_⟩
    · intro i x hx
      rcases hlt hx with ⟨_, hx⟩ | ⟨hi, hx⟩
      · refine ⟨(hsb.r i x hx).1, ?_⟩
        rw [set_get _ _ _ _ hidl, if_neg (hxn i x hx)]
        exact (hsb.r i x hx).2
      · rw [hi, hx]
        exact ⟨hid, by rw [set_get _ _ _ _ hidl, if_pos rfl]⟩
    · intro x p hp
      rw [set_get _ _ _ _ hidl] at hp
      by_cases hx : x = id
      · rw [if_pos hx] at hp
        cases hp
        exact .inr ⟨ids.length, rfl, by simp [hx]⟩
      · rw [if_neg hx] at hp
        rcases hsb.m x p hp with h1 | ⟨i, hi, h1⟩
        · exact .inl h1
        · exact .inr ⟨i, hi, by rw [List.getElem?_append_left (get_lt h1)]; exact h1⟩
  have hks : ∀ i x, ids[i]? = some x → (ks.set id key).getD x 0 = ks.getD x 0 := fun i x hi => ks_set _ _ _ _ (hxn i x hi)
  have hF : FixI (ks.set id key) (ids ++ [id]) ids.length := by
    refine ⟨?_, ?_⟩
    · intro j x y hj hjl hp hx hy
      rcases hlt hy with ⟨hj2, hy⟩ | ⟨hj2, _⟩
      · rcases hlt hx with ⟨_, hx⟩ | ⟨h3, _⟩
        · exact ord_ks hks hx hy (hso j x y hj hx hy)
        · exact absurd h3 (by omega)
      · exact absurd hj2 hjl
    · intro j x y _ _ hp _ hy
      have := get_lt hy
      rw [List.length_append, List.length_singleton] at this
      omega
  have hC : ChildI (ks.set id key) (ids ++ [id]) ids.length := by
    intro j x y _ hp _ hy
    have := get_lt hy
    rw [List.length_append, List.length_singleton] at this
    omega
  have hu := up_ok n (ks.set id key) id ids.length ids.length (ids ++ [id], pl) (Nat.le_refl _) (by simp) (by rw [e1]; exact hb) (by rw [e1]; exact hF)
  have hsd : Sd n (putV ⟨ids, ks, pl⟩ id key) := ⟨by show (ks.set id key).length = n; rw [List.length_set]; exact hsk, hu.bij, hu.all (by rw [e1]; exact hC)⟩
  refine ⟨hsd, rfl, fun x => ?_, hu.len.trans (by simp)⟩
  have hall : hasV (putV ⟨ids, ks, pl⟩ id key) x ↔ x < n ∧ (pl.set id (ids.length : Int))[x]? ≠ some (-1) := by
    constructor
    · intro hh
      exact ⟨has_lt hsd hh, fun e => (has_iff hsd x (has_lt hsd hh)).1 hh ((hu.same x).2 e)⟩
    · intro ⟨hx, hh⟩
      exact (has_iff hsd x hx).2 (fun e => hh ((hu.same x).1 e))
  rw [hall, set_get _ _ _ _ hidl]
  by_cases hx : x = id
  · subst hx
    rw [if_pos rfl]
    simp only [ne_eq, Option.some.injEq, or_true, iff_true]
    exact ⟨hid, by omega⟩
  · rw [if_neg hx]
    constructor
    · intro ⟨h1, h2⟩
      exact .inl ((has_iff s x h1).2 h2)
    · rintro (h1 | h1)
      · exact ⟨has_lt s h1, (has_iff s x (has_lt s h1)).1 h1⟩
      · exact absurd h1 hx
/-- Change, of one that is there. -/
def changeV (h : HV) (id : Nat) (key : Int) : HV :=
  let r := fixV (h.ks.set id key) (h.pl.getD id 0).toNat (h.ids, h.pl)
  ⟨r.1, h.ks.set id key, r.2⟩
theorem fix_of_ord {ks ks' : List Int} {V : List Nat} {i : Nat} (h : OrdH ks V) (hk : ∀ (j x : Nat), j ≠ i → V[j]? = some x → ks'.getD x 0 = ks.getD x 0) (hi : i < V.length) : FixI ks' V i := by
  have le' : ∀ {j k x y : Nat}, j ≠ i → k ≠ i → V[j]? = some x → V[k]? = some y → leK ks x y → leK ks' x y := by
    intro j k x y hj hk2 hx hy hl
    unfold leK at *
    rw [hk j x hj hx, hk k y hk2 hy]
    exact hl
  refine ⟨fun j x y hj hji hp hx hy => le' hp hji hx hy (h j x y hj hx hy), fun j x y hi0 hj hp hx hy => ?_⟩
  have h1 := getD_getH V i hi
  refine le' (by omega) (by omega) hx hy (leK_trans (h i x _ hi0 hx h1) (h j _ y hj (by rw [hp]; exact h1) hy))
theorem place_of {n : Nat} {h : HV} (s : Sd n h) {id : Nat} (hh : hasV h id) : ∃ i : Nat, h.ids[i]? = some id ∧ h.pl[id]? = some (i : Int) ∧ (h.pl.getD id 0) = (i : Int) ∧ i < h.ids.length := by
  obtain ⟨i, hi⟩ := hh
  have h1 := (s.bij.r i id hi).2
  exact ⟨i, hi, h1, by rw [List.getD_eq_getElem?_getD, h1]; rfl, get_lt hi⟩
theorem change_ok {n : Nat} {h : HV} (s : Sd n h) (id : Nat) (key : Int) (hh : hasV h id) : Turns n h (changeV h id key) (h.ks.set id key) (hasV h) h.ids.length := by
  obtain ⟨i, hi, _, hp, hil⟩ := place_of s hh
  have hF : FixI (h.ks.set id key) h.ids i := fix_of_ord s.ord (fun j x hj hx => ks_set _ _ _ _ (fun e => hj (s.bij.inj (e ▸ hx) hi))) hil
  have hf := fix_ok n (h.ks.set id key) i (h.ids, h.pl) hil s.bij hF
  have e : changeV h id key = ⟨(fixV (h.ks.set id key) i (h.ids, h.pl)).1, h.ks.set id key, (fixV (h.ks.set id key) i (h.ids, h.pl)).2⟩ := by
    unfold changeV
    rw [hp]
    rfl
  rw [e]
  generalize fixV (h.ks.set id key) i (h.ids, h.pl) = r at hf ⊢
  have hsd : Sd n ⟨r.1, h.ks.set id key, r.2⟩ := ⟨by show (h.ks.set id key).length = n; rw [List.length_set]; exact s.klen, hf.bij, hf.all⟩
  refine ⟨hsd, rfl, fun x => ?_, hf.len⟩
  constructor
  · intro h1
    have hx := has_lt hsd h1
    exact (has_iff s x hx).2 (fun e => (has_iff hsd x hx).1 h1 ((hf.same x).2 e))
  · intro h1
    have hx := has_lt s h1
    exact (has_iff hsd x hx).2 (fun e => (has_iff s x hx).1 h1 ((hf.same x).1 e))
/-- What stands at a place goes. -/
def outV (h : HV) (i : Nat) : HV :=
  let last := h.ids.length - 1
  let id := h.ids.getD i 0
  if i < last then
    let x := h.ids.getD last 0
    let r := fixV h.ks i ((h.ids.set i x).take last, (h.pl.set x (i : Int)).set id (-1))
    ⟨r.1, h.ks, r.2⟩
  else ⟨h.ids.take last, h.ks, h.pl.set id (-1)⟩
theorem take_get {α : Type} (l : List α) (m j : Nat) (x : α) (h : (l.take m)[j]? = some x) : j < m ∧ l[j]? = some x := by
  rw [List.getElem?_take] at h
  split at h
  · exact ⟨by assumption, h⟩
  · cases h
theorem get_take {α : Type} (l : List α) (m j : Nat) (h : j < m) : (l.take m)[j]? = l[j]? := by
  rw [List.getElem?_take, if_pos h]
theorem nodup_le : ∀ (n : Nat) (l : List Nat), l.Nodup → (∀ x ∈ l, x < n) → l.length ≤ n
  | 0, [], _, _ => Nat.le_refl _
  | 0, x :: l, _, h => absurd (h x (List.mem_cons_self)) (by omega)
  | n + 1, l, hn, h => by
    by_cases hm : n ∈ l
    · have h1 := nodup_le n (l.erase n) (hn.erase n) (fun x hx => by
        have h2 := (hn.mem_erase_iff).1 hx
        have := h x h2.2
        omega)
      rw [List.length_erase_of_mem hm] at h1
      omega
    · have := nodup_le n l hn (fun x hx => by
        have h1 := h x hx
        have h2 : x ≠ n := fun e => hm (e ▸ hx)
        omega)
      omega
theorem ids_le {n : Nat} {h : HV} (s : Sd n h) : h.ids.length ≤ n := by
  refine nodup_le n h.ids ?_ (fun x hx => by obtain ⟨i, hi, he⟩ := List.getElem_of_mem hx; exact (s.bij.r i x (by rw [List.getElem?_eq_getElem hi, he])).1)
  refine List.pairwise_iff_getElem.2 (fun i j hi hj hij he => ?_)
  have h1 : h.ids[j]? = some h.ids[j] := List.getElem?_eq_getElem hj
  have h2 : h.ids[i]? = some h.ids[j] := by rw [← he]; exact List.getElem?_eq_getElem hi
  have := s.bij.inj h2 h1
  omega
theorem out_fix {n : Nat} {h : HV} (s : Sd n h) (i id : Nat) (hi : h.ids[i]? = some id) (hc : i < h.ids.length - 1) :
    Bij n ((h.ids.set i (h.ids.getD (h.ids.length - 1) 0)).take (h.ids.length - 1)) ((h.pl.set (h.ids.getD (h.ids.length - 1) 0) (i : Int)).set id (-1)) ∧ FixI h.ks ((h.ids.set i (h.ids.getD (h.ids.length - 1) 0)).take (h.ids.length - 1)) i := by
  obtain ⟨ids, ks, pl⟩ := h
  have hsb := s.bij
  have hso := s.ord
  simp only at hsb hso hi hc
  have hil := get_lt hi
  have hidn := (hsb.r i id hi).1
  have hidl : id < pl.length := by rw [hsb.len]; exact hidn
  simp only
  obtain ⟨x, hx⟩ : ∃ x, ids.getD (ids.length - 1) 0 = x := ⟨_, rfl⟩
  rw [hx]
  have hxl : ids[ids.length - 1]? = some x := by rw [getD_getH _ _ (by omega), hx]
  have hne : x ≠ id := fun e => by
    subst e
    have := hsb.inj hxl hi
    omega
  have hxn := (hsb.r _ x hxl).1
  have hxpl : x < pl.length := by rw [hsb.len]; exact hxn
  have eV : ∀ j, ((ids.set i x).take (ids.length - 1))[j]? = if j < ids.length - 1 then (if j = i then some x else ids[j]?) else none := by
    intro j
    rw [List.getElem?_take]
    split
    · rw [set_get _ _ _ _ hil]
    · rfl
  have eP : ∀ y, ((pl.set x (i : Int)).set id (-1))[y]? = if y = id then some (-1) else if y = x then some (i : Int) else pl[y]? := fun y => by
    rw [set_get _ _ _ _ (by rw [List.length_set]; exact hidl), set_get _ _ _ _ hxpl]
  have hb : Bij n ((ids.set i x).take (ids.length - 1)) ((pl.set x (i : Int)).set id (-1)) := by
    refine ⟨by rw [List.length_set, List.length_set]; exact hsb.len, ?_, ?_⟩
    · intro j y hy
      rw [eV] at hy
      rw [eP]
      by_cases hj : j < ids.length - 1
      · rw [if_pos hj] at hy
        by_cases hji : j = i
        · rw [if_pos hji] at hy
          cases hy
          exact ⟨hxn, by rw [if_neg hne, if_pos rfl, hji]⟩
        · rw [if_neg hji] at hy
          refine ⟨(hsb.r j y hy).1, ?_⟩
          rw [if_neg, if_neg]
          · exact (hsb.r j y hy).2
          · intro e
            subst e
            have := hsb.inj hy hxl
            omega
          · intro e
            subst e
            exact hji (hsb.inj hy hi)
      · rw [if_neg hj] at hy
        cases hy
    · intro y p hp
      rw [eP] at hp
      by_cases hy1 : y = id
      · rw [if_pos hy1] at hp
        cases hp
        exact .inl rfl
      · rw [if_neg hy1] at hp
        by_cases hy2 : y = x
        · rw [if_pos hy2] at hp
          cases hp
          exact .inr ⟨i, rfl, by rw [eV, if_pos hc, if_pos rfl, hy2]⟩
        · rw [if_neg hy2] at hp
          rcases hsb.m y p hp with h1 | ⟨k, hk, h1⟩
          · exact .inl h1
          · refine .inr ⟨k, hk, ?_⟩
            have hkl := get_lt h1
            have hkl2 : k ≠ ids.length - 1 := by
              intro e
              rw [e, hxl] at h1
              cases h1
              exact hy2 rfl
            rw [eV, if_pos (by omega), if_neg]
            · exact h1
            · intro e
              rw [e, hi] at h1
              cases h1
              exact hy1 rfl
  have hF : FixI ks ((ids.set i x).take (ids.length - 1)) i := by
    refine ⟨?_, ?_⟩
    · intro j u v hj hji hp hu hv
      rw [eV] at hu hv
      by_cases hjl : j < ids.length - 1
      · rw [if_pos hjl, if_neg hji] at hv
        rw [if_pos (by omega), if_neg hp] at hu
        exact hso j u v hj hu hv
      · rw [if_neg hjl] at hv
        cases hv
    · intro j u v hi0 hj hp hu hv
      rw [eV] at hu hv
      by_cases hjl : j < ids.length - 1
      · rw [if_pos hjl, if_neg (by omega)] at hv
        rw [if_pos (by omega), if_neg (by omega)] at hu
        exact leK_trans (hso i u id hi0 hu hi) (hso j id v hj (by rw [hp]; exact hi) hv)
      · rw [if_neg hjl] at hv
        cases hv
  exact ⟨hb, hF⟩
theorem out_ok {n : Nat} {h : HV} (s : Sd n h) (i id : Nat) (hi : h.ids[i]? = some id) : Turns n h (outV h i) h.ks (fun x => hasV h x ∧ x ≠ id) (h.ids.length - 1) := by
  obtain ⟨ids, ks, pl⟩ := h
  have hsk := s.klen
  have hsb := s.bij
  have hso := s.ord
  simp only at hsk hsb hso hi
  have hil := get_lt hi
  have hidn := (hsb.r i id hi).1
  have hidl : id < pl.length := by rw [hsb.len]; exact hidn
  have hgi := get_getD hi
  unfold outV
  simp only
  rw [hgi]
  by_cases hc : i < ids.length - 1
  · rw [if_pos hc]
    obtain ⟨x, hx⟩ : ∃ x, ids.getD (ids.length - 1) 0 = x := ⟨_, rfl⟩
    rw [hx]
    have hxl : ids[ids.length - 1]? = some x := by rw [getD_getH _ _ (by omega), hx]
    have hne : x ≠ id := fun e => by
      subst e
      have := hsb.inj hxl hi
      omega
    have hxn := (hsb.r _ x hxl).1
    have hxpl : x < pl.length := by rw [hsb.len]; exact hxn
    have eV : ∀ j, ((ids.set i x).take (ids.length - 1))[j]? = if j < ids.length - 1 then (if j = i then some x else ids[j]?) else none := by
      intro j
      rw [List.getElem?_take]
      split
      · rw [set_get _ _ _ _ hil]
      · rfl
    have eP : ∀ y, ((pl.set x (i : Int)).set id (-1))[y]? = if y = id then some (-1) else if y = x then some (i : Int) else pl[y]? := fun y => by
      rw [set_get _ _ _ _ (by rw [List.length_set]; exact hidl), set_get _ _ _ _ hxpl]
    have hb : Bij n ((ids.set i x).take (ids.length - 1)) ((pl.set x (i : Int)).set id (-1)) := by
      refine ⟨by rw [List.length_set, List.length_set]; exact hsb.len, ?_, ?_⟩
      · intro j y hy
        rw [eV] at hy
        rw [eP]
        by_cases hj : j < ids.length - 1
        · rw [if_pos hj] at hy
          by_cases hji : j = i
          · rw [if_pos hji] at hy
            cases hy
            exact ⟨hxn, by rw [if_neg hne, if_pos rfl, hji]⟩
          · rw [if_neg hji] at hy
            refine ⟨(hsb.r j y hy).1, ?_⟩
            rw [if_neg, if_neg]
            · exact (hsb.r j y hy).2
            · intro e
              subst e
              have := hsb.inj hy hxl
              omega
            · intro e
              subst e
              exact hji (hsb.inj hy hi)
        · rw [if_neg hj] at hy
          cases hy
      · intro y p hp
        rw [eP] at hp
        by_cases hy1 : y = id
        · rw [if_pos hy1] at hp
          cases hp
          exact .inl rfl
        · rw [if_neg hy1] at hp
          by_cases hy2 : y = x
          · rw [if_pos hy2] at hp
            cases hp
            exact .inr ⟨i, rfl, by rw [eV, if_pos hc, if_pos rfl, hy2]⟩
          · rw [if_neg hy2] at hp
            rcases hsb.m y p hp with h1 | ⟨k, hk, h1⟩
            · exact .inl h1
            · refine .inr ⟨k, hk, ?_⟩
              have hkl := get_lt h1
              have hkl2 : k ≠ ids.length - 1 := by
                intro e
                rw [e, hxl] at h1
                cases h1
                exact hy2 rfl
              rw [eV, if_pos (by omega), if_neg]
              · exact h1
              · intro e
                rw [e, hi] at h1
                cases h1
                exact hy1 rfl
    have hF : FixI ks ((ids.set i x).take (ids.length - 1)) i := by
      refine ⟨?_, ?_⟩
      · intro j u v hj hji hp hu hv
        rw [eV] at hu hv
        by_cases hjl : j < ids.length - 1
        · rw [if_pos hjl, if_neg hji] at hv
          rw [if_pos (by omega), if_neg hp] at hu
          exact hso j u v hj hu hv
        · rw [if_neg hjl] at hv
          cases hv
      · intro j u v hi0 hj hp hu hv
        rw [eV] at hu hv
        by_cases hjl : j < ids.length - 1
        · rw [if_pos hjl, if_neg (by omega)] at hv
          rw [if_pos (by omega), if_neg (by omega)] at hu
          exact leK_trans (hso i u id hi0 hu hi) (hso j id v hj (by rw [hp]; exact hi) hv)
        · rw [if_neg hjl] at hv
          cases hv
    have hl1 : ((ids.set i x).take (ids.length - 1)).length = ids.length - 1 := by
      rw [List.length_take, List.length_set]; omega
    have hf := fix_ok n ks i ((ids.set i x).take (ids.length - 1), (pl.set x (i : Int)).set id (-1)) (by rw [hl1]; exact hc) hb hF
    generalize fixV ks i ((ids.set i x).take (ids.length - 1), (pl.set x (i : Int)).set id (-1)) = r at hf ⊢
    have hsd : Sd n ⟨r.1, ks, r.2⟩ := ⟨hsk, hf.bij, hf.all⟩
    refine ⟨hsd, rfl, fun y => ?_, hf.len.trans hl1⟩
    have hsm := hf.same y
    simp only at hsm
    rw [eP] at hsm
    constructor
    · intro h1
      have hy := has_lt hsd h1
      have h2 := (has_iff hsd y hy).1 h1
      simp only at h2
      by_cases hy1 : y = id
      · rw [if_pos hy1] at hsm
        exact absurd (hsm.2 rfl) h2
      · refine ⟨?_, hy1⟩
        by_cases hy2 : y = x
        · rw [hy2]
          exact ⟨_, hxl⟩
        · rw [if_neg hy1, if_neg hy2] at hsm
          exact (has_iff s y hy).2 (fun e => h2 (hsm.2 e))
    · intro ⟨h1, hy1⟩
      have hy := has_lt s h1
      refine (has_iff hsd y hy).2 (fun e => ?_)
      have h2 := hsm.1 e
      rw [if_neg hy1] at h2
      by_cases hy2 : y = x
      · rw [if_pos hy2] at h2
        simp only [Option.some.injEq] at h2
        omega
      · rw [if_neg hy2] at h2
        exact (has_iff s y hy).1 h1 h2
  · rw [if_neg hc]
    have hie : i = ids.length - 1 := by omega
    have eP : ∀ y, (pl.set id (-1))[y]? = if y = id then some (-1) else pl[y]? := fun y => by rw [set_get _ _ _ _ hidl]
    have hb : Bij n (ids.take (ids.length - 1)) (pl.set id (-1)) := by
      refine ⟨by rw [List.length_set]; exact hsb.len, ?_, ?_⟩
      · intro j y hy
        obtain ⟨hj, hy⟩ := take_get _ _ _ _ hy
        refine ⟨(hsb.r j y hy).1, ?_⟩
        rw [eP, if_neg]
        · exact (hsb.r j y hy).2
        · intro e
          subst e
          have := hsb.inj hy hi
          omega
      · intro y p hp
        rw [eP] at hp
        by_cases hy1 : y = id
        · rw [if_pos hy1] at hp
          cases hp
          exact .inl rfl
        · rw [if_neg hy1] at hp
          rcases hsb.m y p hp with h1 | ⟨k, hk, h1⟩
          · exact .inl h1
          · refine .inr ⟨k, hk, ?_⟩
            have hkl := get_lt h1
            rw [get_take]
            · exact h1
            · have : k ≠ i := by
                intro e
                rw [e, hi] at h1
                cases h1
                exact hy1 rfl
              omega
    have hsd : Sd n ⟨ids.take (ids.length - 1), ks, pl.set id (-1)⟩ := by
      refine ⟨hsk, hb, ?_⟩
      intro j u v hj hu hv
      exact hso j u v hj (take_get _ _ _ _ hu).2 (take_get _ _ _ _ hv).2
    refine ⟨hsd, rfl, fun y => ?_, by show (ids.take (ids.length - 1)).length = _; rw [List.length_take]; omega⟩
    constructor
    · intro h1
      have hy := has_lt hsd h1
      have h2 := (has_iff hsd y hy).1 h1
      simp only at h2
      rw [eP] at h2
      by_cases hy1 : y = id
      · rw [if_pos hy1] at h2
        exact absurd rfl h2
      · rw [if_neg hy1] at h2
        exact ⟨(has_iff s y hy).2 h2, hy1⟩
    · intro ⟨h1, hy1⟩
      have hy := has_lt s h1
      refine (has_iff hsd y hy).2 ?_
      show (pl.set id (-1))[y]? ≠ _
      rw [eP, if_neg hy1]
      exact (has_iff s y hy).1 h1
/-- The first one is the least. -/
theorem first_least {n : Nat} {h : HV} (s : Sd n h) (x : Nat) (hx : h.ids[0]? = some x) : ∀ y, hasV h y → leK h.ks x y := by
  have key : ∀ (j y : Nat), h.ids[j]? = some y → leK h.ks x y := by
    intro j
    induction j using Nat.strongRecOn with
    | _ j ih =>
      intro y hy
      by_cases hj : j = 0
      · subst hj
        rw [hx] at hy
        cases hy
        exact leK_refl _ _
      · have hl : (j - 1) / 2 < h.ids.length := by have := get_lt hy; omega
        have h1 := getD_getH h.ids _ hl
        exact leK_trans (ih ((j - 1) / 2) (by omega) _ h1) (s.ord j _ y (by omega) h1 hy)
  rintro y ⟨j, hj⟩
  exact key j y hj
/-- New. -/
def newV (n : Nat) : HV := ⟨[], List.replicate n 0, List.replicate n (-1)⟩
theorem new_ok (n : Nat) : Sd n (newV n) ∧ ∀ x, ¬ hasV (newV n) x := by
  refine ⟨⟨List.length_replicate, ⟨List.length_replicate, ?_, ?_⟩, ?_⟩, ?_⟩
  · intro i x hx
    cases hx
  · intro x p hp
    simp only [newV] at hp
    rw [List.getElem?_replicate] at hp
    split at hp
    · cases hp
      exact .inl rfl
    · cases hp
  · intro j x y _ hx
    cases hx
  · rintro x ⟨i, hi⟩
    cases hi
end Go.Proofs.Ytopikpjagjnbhaa
