/- The document's heap tells what the heap holds: the plain law. -/
import Derived.Test.YtopikpjagjnbhaaHeapTwo
import Derived.Test.YtopikpjagjnbhaaZRfLow
namespace Go.Proofs.Ytopikpjagjnbhaa
open Go.RowKit
/-- One more, in its place. -/
theorem byKeys_ins {ks : List Int} {l : List Nat} {x k : Nat} (hk : k ≤ (byKeys ks l).length) (h1 : ∀ j, k ≤ j → j < (byKeys ks l).length → leK ks x ((byKeys ks l).getD j 0)) (h2 : 0 < k → leK ks ((byKeys ks l).getD (k - 1) 0) x) :
    (byKeys ks l).take k ++ x :: (byKeys ks l).drop k = byKeys ks (l ++ [x]) := by
  have hord := byKeys_ord ks l
  have hperm := byKeys_perm ks l
  generalize byKeys ks l = L at *
  apply byKeys_uniq
  · have e1 : (L.take k ++ x :: L.drop k).Perm (x :: (L.take k ++ L.drop k)) := List.perm_middle
    rw [List.take_append_drop] at e1
    exact e1.trans ((List.Perm.cons x hperm).trans (List.perm_append_comm (l₁ := [x])))
  · rw [List.pairwise_append, List.pairwise_cons]
    have hsplit : (L.take k ++ L.drop k).Pairwise (fun x y => leK ks x y) := by rw [List.take_append_drop]; exact hord
    rw [List.pairwise_append] at hsplit
    have hlow : ∀ a ∈ L.take k, leK ks a x := by
      intro a ha
      obtain ⟨i, hi⟩ := List.mem_iff_getElem?.1 ha
      have hik : i < k := by
        have := (List.getElem?_eq_some_iff.1 hi).1
        simp at this
        omega
      have hi2 : L[i]? = some a := by rw [List.getElem?_take, if_pos hik] at hi; exact hi
      have hk1 : k - 1 < L.length := by omega
      have hlast := h2 (by omega)
      by_cases e : i = k - 1
      · subst e
        rw [List.getD_eq_getElem?_getD, hi2] at hlast
        exact hlast
      · have hp := List.pairwise_iff_getElem.1 hord i (k - 1) (get_lt hi2) hk1 (by omega)
        have e1 : L[i]'(get_lt hi2) = a := by have := (List.getElem?_eq_some_iff.1 hi2).2; exact this
        rw [e1] at hp
        have e2 : L.getD (k - 1) 0 = L[k - 1] := by simp [List.getD_eq_getElem?_getD, hk1]
        rw [e2] at hlast
        exact leK_trans hp hlast
    have hhigh : ∀ a ∈ L.drop k, leK ks x a := by
      intro a ha
      obtain ⟨i, hi⟩ := List.mem_iff_getElem?.1 ha
      rw [List.getElem?_drop] at hi
      have := h1 (k + i) (by omega) (get_lt hi)
      rw [List.getD_eq_getElem?_getD, hi] at this
      exact this
    refine ⟨hsplit.1, ⟨hhigh, hsplit.2.1⟩, fun a ha b hb => ?_⟩
    rcases List.mem_cons.1 hb with e | e
    · rw [e]; exact hlow a ha
    · exact leK_trans (hlow a ha) (hhigh b e)
/-- The document's rows, of a heap. -/
structure PR (h : HV) (ids : List Nat) (keys : List Int) : Prop where
  i : ids = byKeys h.ks h.ids
  k : keys = ids.map (fun x => h.ks.getD x 0)
variable {n : Nat} {h : HV} {ids : List Nat} {keys : List Int}
theorem PR.mem (P : PR h ids keys) {x : Nat} : x ∈ ids ↔ hasV h x := by
  rw [P.i, has_mem]
  exact (byKeys_perm _ _).mem_iff
theorem PR.nodup (P : PR h ids keys) (s : Sd n h) : ids.Nodup := by
  rw [P.i]
  exact (byKeys_perm _ _).nodup_iff.2 (nodup_ids s)
theorem PR.len (P : PR h ids keys) : ids.length = h.ids.length := by rw [P.i, byKeys_len]
theorem PR.key (P : PR h ids keys) {j : Nat} (hj : j < ids.length) : keys.getD j 0 = h.ks.getD (ids.getD j 0) 0 := by
  rw [P.k]
  simp [List.getD_eq_getElem?_getD, hj]
/-- In its place, one that is not there. -/
theorem pr_ins {ks : List Int} {l : List Nat} {x i : Nat} {key : Int} {h' : HV} (hx : x ∉ l) (hi : ids = byKeys ks l) (hk : keys = ids.map (fun y => ks.getD y 0)) (hks : h'.ks = ks.set x key) (hxl : x < ks.length) (hp : (l ++ [x]).Perm h'.ids) (hin : i ≤ ids.length)
    (h1 : ∀ j, j < i → keys.getD j 0 < key ∨ (keys.getD j 0 = key ∧ ids.getD j 0 < x)) (h2 : i < ids.length → ¬ (keys.getD i 0 < key ∨ (keys.getD i 0 = key ∧ ids.getD i 0 < x))) :
    PR h' (ids.take i ++ [x] ++ ids.drop i) (keys.take i ++ [key] ++ keys.drop i) := by
  have hmem : ∀ y, y ∈ ids → y ≠ x := fun y hy e => hx (by rw [hi] at hy; rw [← e]; exact (byKeys_perm _ _).mem_iff.1 hy)
  have hkx : (ks.set x key).getD x 0 = key := by rw [List.getD_eq_getElem?_getD, List.getElem?_set, if_pos rfl, if_pos hxl]; rfl
  have hky : ∀ y, y ∈ ids → (ks.set x key).getD y 0 = ks.getD y 0 := fun y hy => ks_set _ _ _ _ (hmem y hy)
  have hid : ∀ j, j < ids.length → ids.getD j 0 ∈ ids := fun j hj => by rw [List.getD_eq_getElem?_getD, List.getElem?_eq_getElem hj]; exact List.getElem_mem hj
  have hkj : ∀ j, j < ids.length → keys.getD j 0 = ks.getD (ids.getD j 0) 0 := fun j hj => by rw [hk]; simp [List.getD_eq_getElem?_getD, hj]
  have hi2 : ids = byKeys (ks.set x key) l := by
    rw [hi]
    refine byKeys_same (List.Perm.refl _) (fun a b ha hb hab => ?_)
    unfold leK at *
    have m : ∀ y, y ∈ l → y ∈ ids := fun y hy => by rw [hi]; exact (byKeys_perm _ _).mem_iff.2 hy
    rw [hky a (m a ha), hky b (m b hb)]
    exact hab
  have hord := byKeys_ord (ks.set x key) l
  rw [← hi2] at hord
  have hins := byKeys_ins (ks := ks.set x key) (l := l) (x := x) (k := i) (by rw [← hi2]; exact hin) (fun j hj1 hj2 => by
    rw [← hi2] at hj2 ⊢
    have hlt : i < ids.length := by omega
    have hb := h2 hlt
    have hbi : leK (ks.set x key) x (ids.getD i 0) := by
      unfold leK
      rw [hkx, hky _ (hid i hlt), ← hkj i hlt]
      have := hmem _ (hid i hlt)
      omega
    by_cases e : j = i
    · rw [e]; exact hbi
    · refine leK_trans hbi ?_
      have := List.pairwise_iff_getElem.1 hord i j hlt hj2 (by omega)
      rw [show ids.getD i 0 = ids[i] by simp [List.getD_eq_getElem?_getD, hlt], show ids.getD j 0 = ids[j] by simp [List.getD_eq_getElem?_getD, hj2]]
      exact this) (fun h0 => by
    rw [← hi2]
    have hlt : i - 1 < ids.length := by omega
    have hb := h1 (i - 1) (by omega)
    unfold leK
    rw [hkx, hky _ (hid _ hlt), ← hkj _ hlt]
    omega)
  rw [← hi2] at hins
  have hsame : byKeys (ks.set x key) (l ++ [x]) = byKeys h'.ks h'.ids := byKeys_same hp (fun a b _ _ hab => by rw [hks]; exact hab)
  refine ⟨by rw [← hsame, ← hins, List.append_assoc]; rfl, ?_⟩
  rw [hks, hk]
  simp only [List.map_append, List.map_cons, List.map_nil, hkx, List.map_take, List.map_drop]
  have e : ids.map (fun y => ks.getD y 0) = ids.map (fun y => (ks.set x key).getD y 0) := List.map_congr_left (fun y hy => (hky y hy).symm)
  rw [e]
/-- Without one. -/
theorem pr_del {ks : List Int} {l l' : List Nat} {i x : Nat} (hnd : l.Nodup) (hnd' : l'.Nodup) (hi : ids = byKeys ks l) (hk : keys = ids.map (fun y => ks.getD y 0)) (hil : i < ids.length) (hx : ids.getD i 0 = x) (hm : ∀ y, y ∈ l' ↔ y ∈ l ∧ y ≠ x) :
    ids.take i ++ ids.drop (i + 1) = byKeys ks l' ∧ keys.take i ++ keys.drop (i + 1) = (ids.take i ++ ids.drop (i + 1)).map (fun y => ks.getD y 0) := by
  have hn : ids.Nodup := by rw [hi]; exact (byKeys_perm _ _).nodup_iff.2 hnd
  have hord := byKeys_ord ks l
  rw [← hi] at hord
  have he : ids.take i ++ ids.drop (i + 1) = ids.eraseIdx i := by rw [List.eraseIdx_eq_take_drop_succ]
  constructor
  · rw [he]
    refine byKeys_uniq ((List.perm_ext_iff_of_nodup (hn.sublist (List.eraseIdx_sublist _ _)) hnd').2 (fun y => ?_)) (hord.sublist (List.eraseIdx_sublist _ _))
    have hx2 : ids[i] = x := by rw [← hx]; simp [List.getD_eq_getElem?_getD, hil]
    have hs : ids = ids.take i ++ x :: ids.drop (i + 1) := by rw [← hx2, ← List.drop_eq_getElem_cons hil, List.take_append_drop]
    have hn2 : (x :: (ids.take i ++ ids.drop (i + 1))).Nodup := by
      rw [hs] at hn
      exact List.perm_middle.nodup_iff.1 hn
    have hxn := (List.nodup_cons.1 hn2).1
    have hml : y ∈ ids ↔ y = x ∨ y ∈ ids.take i ++ ids.drop (i + 1) := by
      have h3 : y ∈ ids ↔ y ∈ ids.take i ++ x :: ids.drop (i + 1) := by rw [← hs]
      rw [h3, List.perm_middle.mem_iff, List.mem_cons]
    have hml2 : y ∈ ids ↔ y ∈ l := by rw [hi]; exact (byKeys_perm _ _).mem_iff
    rw [← he, hm, ← hml2, hml]
    constructor
    · intro h
      exact ⟨.inr h, fun e => hxn (by rw [← e]; exact h)⟩
    · rintro ⟨h | h, hne⟩
      · exact absurd h hne
      · exact h
  · rw [hk]
    simp only [List.map_append, List.map_take, List.map_drop]
theorem PR.out (P : PR h ids keys) (s : Sd n h) {i x : Nat} (hil : i < ids.length) (hx : ids.getD i 0 = x) {h' : HV} (s' : Sd n h') (hks : h'.ks = h.ks) (hm : ∀ y, hasV h' y ↔ hasV h y ∧ y ≠ x) : PR h' (ids.take i ++ ids.drop (i + 1)) (keys.take i ++ keys.drop (i + 1)) := by
  obtain ⟨h1, h2⟩ := pr_del (nodup_ids s) (nodup_ids s') P.i P.k hil hx (fun y => by rw [← has_mem, ← has_mem]; exact hm y)
  exact ⟨by rw [hks]; exact h1, by rw [hks]; exact h2⟩
theorem PR.lower (P : PR h ids keys) (s : Sd n h) (z : Int) : PR (lowerV h z) ids (keys.map (· - z)) := by
  have hk : ∀ y, y ∈ h.ids → (lowerV h z).ks.getD y 0 = h.ks.getD y 0 - z := fun y hy => lowerV_key s z hy
  refine ⟨?_, ?_⟩
  · rw [P.i]
    refine byKeys_same (List.Perm.refl _) (fun a b ha hb hab => ?_)
    unfold leK at *
    rw [hk a ha, hk b hb]
    omega
  · rw [P.k, List.map_map]
    refine List.map_congr_left (fun y hy => ?_)
    rw [P.i] at hy
    show h.ks.getD y 0 - z = _
    rw [hk y ((byKeys_perm _ _).mem_iff.1 hy)]
end Go.Proofs.Ytopikpjagjnbhaa

/- The heap and the document's, apart: what an act does to both. -/
namespace Go.Proofs.Ytopikpjagjnbhaa
open Go.RowKit
variable {w0 w : World} {b mb n : Nat} {h : HV} {ids : List Nat} {keys : List Int} {TT : Nat → Prop}
/-- Both, apart; T: their blocks. -/
def Ph (w0 w : World) (b mb n : Nat) (h : HV) (ids : List Nat) (keys : List Int) (T : Nat → Prop) : Prop :=
  ∃ S v1 v2, Hz w0 w b n h S ∧ Rf w w0.heap.size mb n v1 v2 ids keys ∧ (∀ k, S k → k ≠ mb ∧ v1.ownBlock ≠ some k ∧ v2.ownBlock ≠ some k) ∧ ∀ k, T k ↔ S k ∨ k = mb ∨ v1.ownBlock = some k ∨ v2.ownBlock = some k
theorem Ph.lt (P : Ph w0 w b mb n h ids keys TT) {k : Nat} (hk : TT k) : k < w.heap.size := by
  obtain ⟨S, v1, v2, h1, h2, h3, h4⟩ := P
  rcases (h4 k).1 hk with e | e | e | e
  · exact h1.lt e
  · rw [e]; exact h2.mo.lt
  · exact (h2.io.lt k e).2
  · exact (h2.ko.lt k e).2
theorem Ph.ge (P : Ph w0 w b mb n h ids keys TT) {k : Nat} (hk : TT k) : w0.heap.size ≤ k := by
  obtain ⟨S, v1, v2, h1, h2, h3, h4⟩ := P
  rcases (h4 k).1 hk with e | e | e | e
  · exact h1.ge e
  · rw [e]; exact h2.lb
  · exact (h2.io.lt k e).1
  · exact (h2.ko.lt k e).1
theorem Ph.below {w1 : World} (P : Ph w0 w b mb n h ids keys TT) (hb : Below w.heap.size w w1) : Ph w0 w1 b mb n h ids keys TT := by
  obtain ⟨S, v1, v2, h1, h2, h3, h4⟩ := P
  exact ⟨S, v1, v2, h1.below hb, h2.below hb, h3, h4⟩
theorem Ph.bl (P : Ph w0 w b mb n h ids keys TT) : Below w0.heap.size w0 w := by
  obtain ⟨S, v1, v2, h1, h2, h3, h4⟩ := P
  exact h1.hx.bl
theorem Ph.sd (P : Ph w0 w b mb n h ids keys TT) : Sd n h := by
  obtain ⟨S, v1, v2, ⟨_, _, _, _, _, _, h2, _⟩, _⟩ := P
  exact h2
/-- An act of the heap. -/
theorem Ph.code {w' : World} {h' : HV} {S : Nat → Prop} {v1 v2 : Value} (_h1 : Hz w0 w b n h S) (h2 : Rf w w0.heap.size mb n v1 v2 ids keys) (h3 : ∀ k, S k → k ≠ mb ∧ v1.ownBlock ≠ some k ∧ v2.ownBlock ≠ some k) (h4 : ∀ k, TT k ↔ S k ∨ k = mb ∨ v1.ownBlock = some k ∨ v2.ownBlock = some k) (hz : ∃ S', Hz w0 w' b n h' S' ∧ Stp w w' S S') : ∃ T', Ph w0 w' b mb n h' ids keys T' ∧ Stp w w' TT T' := by
  obtain ⟨S', k1, k2, k3⟩ := hz
  have l0 := h2.mo.lt
  have l1 := fun k e => (h2.io.lt k e).2
  have l2 := fun k e => (h2.ko.lt k e).2
  refine ⟨fun k => S' k ∨ k = mb ∨ v1.ownBlock = some k ∨ v2.ownBlock = some k, ⟨S', v1, v2, k1, h2.keep k2 (fun e => (h3 mb e).1 rfl) (fun k e e2 => (h3 k e2).2.1 e) (fun k e e2 => (h3 k e2).2.2 e), fun k e => ?_, fun _ => Iff.rfl⟩, k2.mono (fun k _ e => (h4 k).2 (.inl e)), fun k e => ?_⟩
  · rcases k3 k e with e2 | e2
    · exact h3 k e2
    · exact ⟨by omega, fun e3 => by have := l1 k e3; omega, fun e3 => by have := l2 k e3; omega⟩
  · rcases e with e | e
    · rcases k3 k e with e | e
      · exact .inl ((h4 k).2 (.inl e))
      · exact .inr e
    · exact .inl ((h4 k).2 (.inr e))
/-- An act of the document's. -/
theorem Ph.ref {w' : World} {ids' : List Nat} {keys' : List Int} {S : Nat → Prop} {v1 v2 : Value} (h1 : Hz w0 w b n h S) (h2 : Rf w w0.heap.size mb n v1 v2 ids keys) (h3 : ∀ k, S k → k ≠ mb ∧ v1.ownBlock ≠ some k ∧ v2.ownBlock ≠ some k) (h4 : ∀ k, TT k ↔ S k ∨ k = mb ∨ v1.ownBlock = some k ∨ v2.ownBlock = some k)
    (hr : ∃ u1 u2, Rf w' w0.heap.size mb n u1 u2 ids' keys' ∧ Chg (fun k => k = mb) w w' ∧ (∀ k, u1.ownBlock = some k ∨ u2.ownBlock = some k → v1.ownBlock = some k ∨ w.heap.size ≤ k)) : ∃ T', Ph w0 w' b mb n h ids' keys' T' ∧ (Stp w w' TT T' ∧ Chg (fun k => k = mb) w w') := by
  obtain ⟨u1, u2, k1, k2, k3⟩ := hr
  have hSlt := fun k (e : S k) => h1.lt e
  refine ⟨fun k => S k ∨ k = mb ∨ u1.ownBlock = some k ∨ u2.ownBlock = some k, ⟨S, u1, u2, h1.keep k2 (fun k e e2 => (h3 k e).1 e2) (fun k e => by rw [e]; exact h2.lb), k1, fun k e => ⟨(h3 k e).1, fun e2 => ?_, fun e2 => ?_⟩, fun _ => Iff.rfl⟩, ⟨k2.mono (fun k _ e => (h4 k).2 (.inr (.inl e))), fun k e => ?_⟩, k2⟩
  · rcases k3 k (.inl e2) with e3 | e3
    · exact (h3 k e).2.1 e3
    · have := hSlt k e; omega
  · rcases k3 k (.inr e2) with e3 | e3
    · exact (h3 k e).2.1 e3
    · have := hSlt k e; omega
  · rcases e with e | e | e
    · exact .inl ((h4 k).2 (.inl e))
    · exact .inl ((h4 k).2 (.inr (.inl e)))
    · rcases k3 k e with e3 | e3
      · exact .inl ((h4 k).2 (.inr (.inr (.inl e3))))
      · exact .inr e3
theorem Stp.refl (w : World) (S : Nat → Prop) : Stp w w S S := ⟨Chg.refl _ _, fun _ h => .inl h⟩
/-- Is it a thing's number? -/
def inZ (n : Nat) (z : Int) : Prop := 0 ≤ z ∧ z < n
instance (n : Nat) (z : Int) : Decidable (inZ n z) := by unfold inZ; infer_instance
theorem inZ_nat {n : Nat} {z : Int} (h : inZ n z) : ∃ x : Nat, z = (x : Int) ∧ x < n ∧ z.toNat = x := ⟨z.toNat, by unfold inZ at h; omega, by unfold inZ at h; omega, rfl⟩
theorem inZ_out {n : Nat} {z : Int} (h : ¬ inZ n z) : z < 0 ∨ (n : Int) ≤ z := by unfold inZ at h; omega
def putS (n : Nat) (h : HV) (z key : Int) : Int × HV := if ¬ inZ n z then (8, h) else if z.toNat ∈ h.ids then (5, h) else (0, putV h z.toNat key)
def chgS (n : Nat) (h : HV) (z key : Int) : Int × HV := if ¬ inZ n z then (8, h) else if z.toNat ∈ h.ids then (0, changeV h z.toNat key) else (4, h)
def remS (n : Nat) (h : HV) (z : Int) : Int × HV := if ¬ inZ n z then (8, h) else if z.toNat ∈ h.ids then (0, outV h (placeV h z.toNat)) else (4, h)
/-- What the heap's act leaves. -/
def CP (w0 w : World) (b mb n : Nat) (ids : List Nat) (keys : List Int) (TT : Nat → Prop) (s : Int × HV) (e : Ending) (w' : World) : Prop := e = .returned (.int .i64 s.1) ∧ ∃ T', Ph w0 w' b mb n s.2 ids keys T' ∧ Stp w w' TT T'
/-- What the document's act leaves. -/
def DP (w0 w : World) (b mb n : Nat) (h2 : HV) (TT : Nat → Prop) (s : Int × HV) (e : Ending) (w' : World) : Prop := e = .returned (.int .i64 s.1) ∧ ∃ ids' keys' T', Ph w0 w' b mb n h2 ids' keys' T' ∧ (Stp w w' TT T' ∧ Chg (fun k => k = mb) w w') ∧ PR s.2 ids' keys'
theorem cput (P : Ph w0 w b mb n h ids keys TT) (hn : n ≤ 4096) (h0 : 0 < n) (z key : Int) :
    Calls Try.prog 10 #[.pointer (some ⟨b, 0, none⟩), .int .i64 z, .int .i64 key] w (CP w0 w b mb n ids keys TT (putS n h z key)) := by
  have P0 := P
  obtain ⟨S, v1, v2, h1, h2, h3, h4⟩ := P
  have s := P0.sd
  by_cases hi : inZ n z
  · obtain ⟨x, hz, hx, hzx⟩ := inZ_nat hi
    by_cases hm : x ∈ h.ids
    · have es : putS n h z key = (5, h) := by unfold putS; rw [hzx, if_neg (by simpa using hi), if_pos hm]
      rw [es]
      refine (zputNo h1 h0 z key 5 (by rw [hz]; exact find_taken s x (has_mem.2 hm) 5) (by decide)).mono ?_
      rintro e w' ⟨he, rfl⟩
      exact ⟨he, TT, P0, Stp.refl _ _⟩
    · have es : putS n h z key = (0, putV h x key) := by unfold putS; rw [hzx, if_neg (by simpa using hi), if_neg hm]
      rw [es]
      refine (zput h1 hn x z key hz hx (fun e => hm (has_mem.1 e))).mono ?_
      rintro e w' ⟨he, h5⟩
      exact ⟨he, Ph.code h1 h2 h3 h4 h5.out⟩
  · have es : putS n h z key = (8, h) := by unfold putS; rw [if_pos hi]
    rw [es]
    refine (zputNo h1 h0 z key 8 (find_out (h := h) z (inZ_out hi) false 5) (by decide)).mono ?_
    rintro e w' ⟨he, rfl⟩
    exact ⟨he, TT, P0, Stp.refl _ _⟩
end Go.Proofs.Ytopikpjagjnbhaa

/- The heap and the document's: Change and Remove of the heap; Put, Change, Remove of the document's. -/
namespace Go.Proofs.Ytopikpjagjnbhaa
open Go.RowKit
variable {w0 w : World} {b mb n : Nat} {h h2 : HV} {ids : List Nat} {keys : List Int} {TT : Nat → Prop}
theorem zchangeNo {S : Nat → Prop} (H : Hz w0 w b n h S) (hn : 0 < n) (id key : Int) (r : Int) (hr : findV n h.pl id true 4 = r) (h0 : r ≠ 0) :
    Calls Try.prog 13 #[.pointer (some ⟨b, 0, none⟩), .int .i64 id, .int .i64 key] w fun e w' => e = .returned (.int .i64 r) ∧ w = w' := by
  obtain ⟨gk, gp, ck, cp, iv, H1, H2, H3, H4, H5, H6, H7⟩ := H
  have := hchangeNo H1 hn id key (by rw [hr]; exact h0)
  rw [hr] at this
  exact this
theorem zremoveNo {S : Nat → Prop} (H : Hz w0 w b n h S) (hn : 0 < n) (id : Int) (r : Int) (hr : findV n h.pl id true 4 = r) (h0 : r ≠ 0) :
    Calls Try.prog 14 #[.pointer (some ⟨b, 0, none⟩), .int .i64 id] w fun e w' => e = .returned (.int .i64 r) ∧ w = w' := by
  obtain ⟨gk, gp, ck, cp, iv, H1, H2, H3, H4, H5, H6, H7⟩ := H
  have := hremoveNo H1 hn id (by rw [hr]; exact h0)
  rw [hr] at this
  exact this
theorem cchg (P : Ph w0 w b mb n h ids keys TT) (hn : n ≤ 4096) (h0 : 0 < n) (z key : Int) :
    Calls Try.prog 13 #[.pointer (some ⟨b, 0, none⟩), .int .i64 z, .int .i64 key] w (CP w0 w b mb n ids keys TT (chgS n h z key)) := by
  have P0 := P
  obtain ⟨S, v1, v2, h1, h2, h3, h4⟩ := P
  have s := P0.sd
  by_cases hi : inZ n z
  · obtain ⟨x, hz, hx, hzx⟩ := inZ_nat hi
    by_cases hm : x ∈ h.ids
    · have es : chgS n h z key = (0, changeV h x key) := by unfold chgS; rw [hzx, if_neg (by simpa using hi), if_pos hm]
      rw [es]
      refine (zchange h1 hn x z key hz (has_mem.2 hm)).mono ?_
      rintro e w' ⟨he, h5⟩
      exact ⟨he, Ph.code h1 h2 h3 h4 h5.out⟩
    · have es : chgS n h z key = (4, h) := by unfold chgS; rw [hzx, if_neg (by simpa using hi), if_neg hm]
      rw [es]
      refine (zchangeNo h1 h0 z key 4 (by rw [hz]; exact find_no s x hx (fun e => hm (has_mem.1 e)) 4) (by decide)).mono ?_
      rintro e w' ⟨he, rfl⟩
      exact ⟨he, TT, P0, Stp.refl _ _⟩
  · have es : chgS n h z key = (8, h) := by unfold chgS; rw [if_pos hi]
    rw [es]
    refine (zchangeNo h1 h0 z key 8 (find_out (h := h) z (inZ_out hi) true 4) (by decide)).mono ?_
    rintro e w' ⟨he, rfl⟩
    exact ⟨he, TT, P0, Stp.refl _ _⟩
theorem crem (P : Ph w0 w b mb n h ids keys TT) (hn : n ≤ 4096) (h0 : 0 < n) (z : Int) :
    Calls Try.prog 14 #[.pointer (some ⟨b, 0, none⟩), .int .i64 z] w (CP w0 w b mb n ids keys TT (remS n h z)) := by
  have P0 := P
  obtain ⟨S, v1, v2, h1, h2, h3, h4⟩ := P
  have s := P0.sd
  by_cases hi : inZ n z
  · obtain ⟨x, hz, hx, hzx⟩ := inZ_nat hi
    by_cases hm : x ∈ h.ids
    · have es : remS n h z = (0, outV h (placeV h x)) := by unfold remS; rw [hzx, if_neg (by simpa using hi), if_pos hm]
      rw [es]
      refine (zremove h1 hn x z hz (has_mem.2 hm)).mono ?_
      rintro e w' ⟨he, h5⟩
      exact ⟨he, Ph.code h1 h2 h3 h4 h5.out⟩
    · have es : remS n h z = (4, h) := by unfold remS; rw [hzx, if_neg (by simpa using hi), if_neg hm]
      rw [es]
      refine (zremoveNo h1 h0 z 4 (by rw [hz]; exact find_no s x hx (fun e => hm (has_mem.1 e)) 4) (by decide)).mono ?_
      rintro e w' ⟨he, rfl⟩
      exact ⟨he, TT, P0, Stp.refl _ _⟩
  · have es : remS n h z = (8, h) := by unfold remS; rw [if_pos hi]
    rw [es]
    refine (zremoveNo h1 h0 z 8 (find_out (h := h) z (inZ_out hi) true 4) (by decide)).mono ?_
    rintro e w' ⟨he, rfl⟩
    exact ⟨he, TT, P0, Stp.refl _ _⟩
theorem at_of (P : PR h ids keys) (s : Sd n h) {x : Nat} (hm : x ∈ h.ids) : ∃ i, At ids x i := by
  obtain ⟨i, hi, e⟩ := List.mem_iff_getElem.1 (P.mem.2 (has_mem.2 hm))
  have hn := P.nodup s
  refine ⟨i, hi, by simp [List.getD_eq_getElem?_getD, hi, e], fun j hj e2 => ?_⟩
  have h1 := List.pairwise_iff_getElem.1 hn j i (by omega) hi hj
  refine h1 ?_
  have h2 : ids.getD j 0 = x := by exact_mod_cast e2
  rw [e, ← h2]
  simp [List.getD_eq_getElem?_getD, show j < ids.length by omega]
theorem not_of (P : PR h ids keys) {x : Nat} (hm : x ∉ h.ids) : Not_ ids x := fun j hj e => hm (has_mem.1 (P.mem.1 (by
  have h2 : ids.getD j 0 = x := by exact_mod_cast e
  rw [← h2, List.getD_eq_getElem?_getD, List.getElem?_eq_getElem hj]
  exact List.getElem_mem hj)))
theorem ra_ref {w' : World} {ids' : List Nat} {keys' : List Int} {v1 v2 : Value} {base : Nat} {most : Int} (r : RA w base mb most ids' keys' w') : ∃ u1 u2, Rf w' base mb most u1 u2 ids' keys' ∧ Chg (fun k => k = mb) w w' ∧ (∀ k, u1.ownBlock = some k ∨ u2.ownBlock = some k → v1.ownBlock = some k ∨ w.heap.size ≤ k) := by
  have _ := v2
  obtain ⟨u1, u2, k1, k2, k3⟩ := r
  exact ⟨u1, u2, k1, k2, fun k e => .inr (k3 k e)⟩
theorem dput (P : Ph w0 w b mb n h2 ids keys TT) (Q : PR h ids keys) (s : Sd n h) (hn : n ≤ 4096) (z key : Int) :
    Calls Try.prog 35 #[.pointer (some ⟨mb, 0, none⟩), .int .i64 z, .int .i64 key] w (DP w0 w b mb n h2 TT (putS n h z key)) := by
  have P0 := P
  obtain ⟨S, v1, v2, p1, R, p3, p4⟩ := P
  have hl : ids.length ≤ 4096 := by rw [Q.len]; have := ids_le s; omega
  by_cases hi : inZ n z
  · obtain ⟨x, hz, hx, hzx⟩ := inZ_nat hi
    by_cases hm : x ∈ h.ids
    · have es : putS n h z key = (5, h) := by unfold putS; rw [hzx, if_neg (by simpa using hi), if_pos hm]
      rw [es]
      obtain ⟨i, hat⟩ := at_of Q s hm
      refine (rfputState R z key hi.1 hi.2 i (by rw [hz]; exact hat) hl).mono ?_
      rintro e w' ⟨he, rfl⟩
      exact ⟨he, ids, keys, TT, P0, ⟨Stp.refl _ _, Chg.refl _ _⟩, Q⟩
    · have es : putS n h z key = (0, putV h x key) := by unfold putS; rw [hzx, if_neg (by simpa using hi), if_neg hm]
      rw [es]
      have hno : ¬ hasV h x := fun e => hm (has_mem.1 e)
      have T := put_ok s x key hx hno
      subst hz
      refine (rfput R x key hi.2 (not_of Q hm) hl).mono ?_
      rintro e w' ⟨he, i, q1, q2, q3, q4⟩
      obtain ⟨T', t1, t2⟩ := Ph.ref p1 R p3 p4 (ra_ref (v2 := v2) q4.out)
      refine ⟨he, _, _, T', t1, t2, pr_ins hm Q.i Q.k T.ks (by rw [s.klen]; exact hx) ((List.perm_ext_iff_of_nodup ?_ (nodup_ids T.sd)).2 (fun y => ?_)) q1 q2.out q3.out⟩
      · exact List.nodup_append.2 ⟨nodup_ids s, by simp, fun a ha c hc => by simp at hc; rw [hc]; exact fun e => hm (by rw [← e]; exact ha)⟩
      · rw [← has_mem, T.has, has_mem, List.mem_append, List.mem_singleton]
  · have es : putS n h z key = (8, h) := by unfold putS; rw [if_pos hi]
    rw [es]
    refine (rfrange R z key (inZ_out hi)).mono ?_
    rintro e w' ⟨he, rfl⟩
    exact ⟨he, ids, keys, TT, P0, ⟨Stp.refl _ _, Chg.refl _ _⟩, Q⟩
theorem drem (P : Ph w0 w b mb n h2 ids keys TT) (Q : PR h ids keys) (s : Sd n h) (hn : n ≤ 4096) (z : Int) :
    Calls Try.prog 37 #[.pointer (some ⟨mb, 0, none⟩), .int .i64 z] w (DP w0 w b mb n h2 TT (remS n h z)) := by
  have P0 := P
  obtain ⟨S, v1, v2, p1, R, p3, p4⟩ := P
  have hl : ids.length ≤ 4096 := by rw [Q.len]; have := ids_le s; omega
  by_cases hi : inZ n z
  · obtain ⟨x, hz, hx, hzx⟩ := inZ_nat hi
    by_cases hm : x ∈ h.ids
    · have es : remS n h z = (0, outV h (placeV h x)) := by unfold remS; rw [hzx, if_neg (by simpa using hi), if_pos hm]
      rw [es]
      obtain ⟨i, hat⟩ := at_of Q s hm
      have T := out_ok s _ x (place_ids s x (has_mem.2 hm))
      refine (rfrem R z hi.1 hi.2 i (by rw [hz]; exact hat) hl).mono ?_
      rintro e w' ⟨he, q4⟩
      obtain ⟨T', t1, t2⟩ := Ph.ref p1 R p3 p4 (ra_ref (v2 := v2) q4.out)
      exact ⟨he, _, _, T', t1, t2, Q.out s hat.1 (by exact_mod_cast hat.2.1) T.sd T.ks T.has⟩
    · have es : remS n h z = (4, h) := by unfold remS; rw [hzx, if_neg (by simpa using hi), if_neg hm]
      rw [es]
      refine (rfremNone R z hi.1 hi.2 (by rw [hz]; exact not_of Q hm) hl).mono ?_
      rintro e w' ⟨he, rfl⟩
      exact ⟨he, ids, keys, TT, P0, ⟨Stp.refl _ _, Chg.refl _ _⟩, Q⟩
  · have es : remS n h z = (8, h) := by unfold remS; rw [if_pos hi]
    rw [es]
    refine (rfremrange R z (inZ_out hi)).mono ?_
    rintro e w' ⟨he, rfl⟩
    exact ⟨he, ids, keys, TT, P0, ⟨Stp.refl _ _, Chg.refl _ _⟩, Q⟩
theorem dchg (P : Ph w0 w b mb n h2 ids keys TT) (Q : PR h ids keys) (s : Sd n h) (hn : n ≤ 4096) (z key : Int) :
    Calls Try.prog 36 #[.pointer (some ⟨mb, 0, none⟩), .int .i64 z, .int .i64 key] w (DP w0 w b mb n h2 TT (chgS n h z key)) := by
  have P0 := P
  obtain ⟨S, v1, v2, p1, R, p3, p4⟩ := P
  have hl : ids.length ≤ 4096 := by rw [Q.len]; have := ids_le s; omega
  by_cases hi : inZ n z
  · obtain ⟨x, hz, hx, hzx⟩ := inZ_nat hi
    by_cases hm : x ∈ h.ids
    · have es : chgS n h z key = (0, changeV h x key) := by unfold chgS; rw [hzx, if_neg (by simpa using hi), if_pos hm]
      rw [es]
      obtain ⟨i, hat⟩ := at_of Q s hm
      have T := change_ok s x key (has_mem.2 hm)
      have hnd := nodup_ids s
      subst hz
      refine (rfchg R x key hi.2 i hat hl).mono ?_
      rintro e w' ⟨he, ids1, keys1, i1, e1, e2, q1, q2, q3, q4⟩
      obtain ⟨T', t1, t2⟩ := Ph.ref p1 R p3 p4 (ra_ref (v2 := v2) q4.out)
      obtain ⟨d1, d2⟩ := pr_del (l' := h.ids.erase x) hnd (hnd.erase x) Q.i Q.k hat.1 (by exact_mod_cast hat.2.1) (fun y => by rw [hnd.mem_erase_iff, and_comm])
      rw [← e1.out] at d1 d2
      rw [← e2.out] at d2
      refine ⟨he, _, _, T', t1, t2, pr_ins (fun e => (hnd.mem_erase_iff.1 e).1 rfl) d1 d2 T.ks (by rw [s.klen]; exact hx) ((List.perm_ext_iff_of_nodup ?_ (nodup_ids T.sd)).2 (fun y => ?_)) q1 q2.out q3.out⟩
      · exact List.nodup_append.2 ⟨hnd.erase x, by simp, fun a ha c hc => by simp at hc; rw [hc]; exact (hnd.mem_erase_iff.1 ha).1⟩
      · rw [← has_mem, T.has, has_mem, List.mem_append, List.mem_singleton, hnd.mem_erase_iff]
        constructor
        · rintro (⟨_, h5⟩ | h5)
          · exact h5
          · rw [h5]; exact hm
        · intro h5
          by_cases e6 : y = x
          · exact .inr e6
          · exact .inl ⟨e6, h5⟩
    · have es : chgS n h z key = (4, h) := by unfold chgS; rw [hzx, if_neg (by simpa using hi), if_neg hm]
      rw [es]
      refine (rfchgNo z key 4 (by decide) (rfremNone R z hi.1 hi.2 (by rw [hz]; exact not_of Q hm) hl)).mono ?_
      rintro e w' ⟨he, rfl⟩
      exact ⟨he, ids, keys, TT, P0, ⟨Stp.refl _ _, Chg.refl _ _⟩, Q⟩
  · have es : chgS n h z key = (8, h) := by unfold chgS; rw [if_pos hi]
    rw [es]
    refine (rfchgNo z key 8 (by decide) (rfremrange R z (inZ_out hi))).mono ?_
    rintro e w' ⟨he, rfl⟩
    exact ⟨he, ids, keys, TT, P0, ⟨Stp.refl _ _, Chg.refl _ _⟩, Q⟩
end Go.Proofs.Ytopikpjagjnbhaa

/- The heap and the document's: Lower, Pop; the keys fit. -/
namespace Go.Proofs.Ytopikpjagjnbhaa
open Go.RowKit
variable {w0 w : World} {b mb n : Nat} {h h2 : HV} {ids : List Nat} {keys : List Int} {TT : Nat → Prop}
def lowS (h : HV) (z : Int) : Int × HV := if ∀ x ∈ h.ids, I64 (h.ks.getD x 0 - z) then (0, lowerV h z) else (8, h)
theorem clow (P : Ph w0 w b mb n h ids keys TT) (hn : n ≤ 4096) (h0 : 0 < n) (hk : KR h) (z : Int) (hz : I64 z) :
    Calls Try.prog 24 #[.pointer (some ⟨b, 0, none⟩), .int .i64 z] w (CP w0 w b mb n ids keys TT (lowS h z)) := by
  have P0 := P
  obtain ⟨S, v1, v2, h1, h2, h3, h4⟩ := P
  by_cases hf : ∀ x ∈ h.ids, I64 (h.ks.getD x 0 - z)
  · have es : lowS h z = (0, lowerV h z) := by unfold lowS; rw [if_pos hf]
    rw [es]
    refine (zlower h1 hn h0 hk z hz hf).mono ?_
    rintro e w' ⟨he, h5⟩
    exact ⟨he, Ph.code h1 h2 h3 h4 h5.out⟩
  · have es : lowS h z = (8, h) := by unfold lowS; rw [if_neg hf]
    rw [es]
    refine (zlowerNo h1 hn h0 hk z hz hf).mono ?_
    rintro e w' ⟨he, rfl⟩
    exact ⟨he, TT, P0, Stp.refl _ _⟩
theorem keys_fit (Q : PR h ids keys) (p : Int → Prop) : (∀ j, j < ids.length → p (keys.getD j 0)) ↔ ∀ x ∈ h.ids, p (h.ks.getD x 0) := by
  constructor
  · intro hj x hx
    obtain ⟨j, hj2, e⟩ := List.mem_iff_getElem.1 (Q.mem.2 (has_mem.2 hx))
    have h1 := hj j hj2
    rw [Q.key hj2, show ids.getD j 0 = x by simp [List.getD_eq_getElem?_getD, hj2, e]] at h1
    exact h1
  · intro hx j hj
    rw [Q.key hj]
    refine hx _ (has_mem.1 (Q.mem.1 ?_))
    rw [List.getD_eq_getElem?_getD, List.getElem?_eq_getElem hj]
    exact List.getElem_mem hj
theorem dlow (P : Ph w0 w b mb n h2 ids keys TT) (Q : PR h ids keys) (s : Sd n h) (hn : n ≤ 4096) (hk : KR h) (z : Int) (hz : I64 z) :
    Calls Try.prog 39 #[.pointer (some ⟨mb, 0, none⟩), .int .i64 z] w (DP w0 w b mb n h2 TT (lowS h z)) := by
  have P0 := P
  obtain ⟨S, v1, v2, p1, R, p3, p4⟩ := P
  have hl : ids.length ≤ 4096 := by rw [Q.len]; have := ids_le s; omega
  refine (rflow R z hz ((keys_fit Q I64).2 hk) hl).mono ?_
  rintro e w' (⟨he, hf, hr⟩ | ⟨he, hf, hb⟩)
  · have es : lowS h z = (0, lowerV h z) := by unfold lowS; rw [if_pos ((keys_fit Q (fun y => I64 (y - z))).1 hf.out)]
    rw [es]
    obtain ⟨u2, k1, k2, k3⟩ := hr.out
    obtain ⟨T', t1, t2⟩ := Ph.ref p1 R p3 p4 ⟨v1, u2, k1, k2, fun k e => e.elim .inl (fun e => .inr (k3 k e))⟩
    exact ⟨he, _, _, T', t1, t2, Q.lower s z⟩
  · have es : lowS h z = (8, h) := by unfold lowS; rw [if_neg (fun h5 => hf.out ((keys_fit Q (fun y => I64 (y - z))).2 h5))]
    rw [es]
    exact ⟨he, ids, keys, TT, P0.below hb.out, ⟨⟨Chg.of_below hb.out, fun _ h => .inl h⟩, Chg.of_below hb.out⟩, Q⟩
def popS (h : HV) : (Int × Int × Bool) × HV := match (h.ids[0]? : Option Nat) with
  | none => ((0, 0, false), h)
  | some x => ((((x : Nat) : Int), h.ks.getD x 0, true), outV h 0)
theorem popS_some {x : Nat} (hx : h.ids[0]? = some x) : popS h = ((((x : Nat) : Int), h.ks.getD x 0, true), outV h 0) := by unfold popS; rw [hx]
theorem popS_none (hx : h.ids[0]? = none) : popS h = ((0, 0, false), h) := by unfold popS; rw [hx]
theorem cpop (P : Ph w0 w b mb n h ids keys TT) (hn : n ≤ 4096) (h0 : 0 < n) :
    Calls Try.prog 11 #[.pointer (some ⟨b, 0, none⟩)] w fun e w' => e = .returned (.tuple #[.int .i64 (popS h).1.1, .int .i64 (popS h).1.2.1, .bool (popS h).1.2.2]) ∧ ∃ T', Ph w0 w' b mb n (popS h).2 ids keys T' ∧ Stp w w' TT T' := by
  have P0 := P
  obtain ⟨S, v1, v2, h1, h2, h3, h4⟩ := P
  cases hx : h.ids[0]? with
  | none =>
    rw [popS_none hx]
    have hl : h.ids.length = 0 := by
      have := List.getElem?_eq_none_iff.1 hx
      omega
    obtain ⟨gk, gp, ck, cp, iv, H1, H2, _⟩ := h1
    refine (hpopNo H1 h0 hl).mono ?_
    rintro e w' ⟨he, rfl⟩
    exact ⟨he, TT, P0, Stp.refl _ _⟩
  | some x =>
    rw [popS_some hx]
    refine (zpop h1 hn x hx).mono ?_
    rintro e w' ⟨he, h5⟩
    exact ⟨he, Ph.code h1 h2 h3 h4 h5.out⟩
theorem pr_head (Q : PR h ids keys) (s : Sd n h) {x : Nat} (hx : h.ids[0]? = some x) : 0 < ids.length ∧ ids.getD 0 0 = x ∧ keys.getD 0 0 = h.ks.getD x 0 := by
  have hl : 0 < ids.length := by
    rw [Q.len]
    exact (List.getElem?_eq_some_iff.1 hx).1
  have hid : ids.getD 0 0 = x := by
    have ho := byKeys_ord h.ks h.ids
    rw [← Q.i] at ho
    have hm : x ∈ ids := Q.mem.2 ⟨0, hx⟩
    cases hb : ids with
    | nil => rw [hb] at hm; cases hm
    | cons y L =>
      rw [hb] at hm ho
      show y = x
      rcases List.mem_cons.1 hm with e | e
      · exact e.symm
      · have k1 := (List.pairwise_cons.1 ho).1 x e
        have k2 := first_least s x hx y (Q.mem.1 (by rw [hb]; simp))
        unfold leK at *
        omega
  exact ⟨hl, hid, by rw [Q.key hl, hid]⟩
theorem dpop (P : Ph w0 w b mb n h2 ids keys TT) (Q : PR h ids keys) (s : Sd n h) (hn : n ≤ 4096) :
    Calls Try.prog 38 #[.pointer (some ⟨mb, 0, none⟩)] w fun e w' => e = .returned (.tuple #[.int .i64 (popS h).1.1, .int .i64 (popS h).1.2.1, .bool (popS h).1.2.2]) ∧ ∃ ids' keys' T', Ph w0 w' b mb n h2 ids' keys' T' ∧ (Stp w w' TT T' ∧ Chg (fun k => k = mb) w w') ∧ PR (popS h).2 ids' keys' := by
  have P0 := P
  obtain ⟨S, v1, v2, p1, R, p3, p4⟩ := P
  have hl : ids.length ≤ 4096 := by rw [Q.len]; have := ids_le s; omega
  cases hx : h.ids[0]? with
  | none =>
    rw [popS_none hx]
    have hl0 : ids.length = 0 := by
      rw [Q.len]
      have := List.getElem?_eq_none_iff.1 hx
      omega
    have e1 : ids = [] := List.length_eq_zero_iff.1 hl0
    have e2 : keys = [] := by rw [Q.k, e1]; rfl
    have R2 := R
    rw [e1, e2] at R2
    refine (rfpopNo R2).mono ?_
    rintro e w' ⟨he, rfl⟩
    exact ⟨he, ids, keys, TT, P0, ⟨Stp.refl _ _, Chg.refl _ _⟩, Q⟩
  | some x =>
    rw [popS_some hx]
    obtain ⟨k1, k2, k3⟩ := pr_head Q s hx
    have T := out_ok s 0 x hx
    refine (rfpop R k1 hl).mono ?_
    rintro e w' ⟨he, q4⟩
    rw [k2, k3] at he
    obtain ⟨T', t1, t2⟩ := Ph.ref p1 R p3 p4 (ra_ref (v2 := v2) q4.out)
    exact ⟨he, _, _, T', t1, t2, Q.out s k1 k2 T.sd T.ks T.has⟩
/-- The keys fit. -/
theorem KR.put (hk : KR h) {x : Nat} {key : Int} (hy : I64 key) {h' : HV} (hks : h'.ks = h.ks.set x key) (hx : x < h.ks.length) (hm : ∀ y, hasV h' y → hasV h y ∨ y = x) : KR h' := fun y hy2 => by
  rw [hks]
  by_cases e : y = x
  · rw [e, List.getD_eq_getElem?_getD, List.getElem?_set, if_pos rfl, if_pos hx]
    exact hy
  · rw [ks_set _ _ _ _ e]
    rcases hm y (has_mem.2 hy2) with h5 | h5
    · exact hk y (has_mem.1 h5)
    · exact absurd h5 e
theorem putS_kr (s : Sd n h) (hk : KR h) (z key : Int) (hy : I64 key) : KR (putS n h z key).2 := by
  unfold putS
  by_cases hi : inZ n z
  · obtain ⟨x, hz, hx, hzx⟩ := inZ_nat hi
    rw [if_neg (by simpa using hi), hzx]
    split
    · exact hk
    · next hm =>
      have T := put_ok s x key hx (fun e => hm (has_mem.1 e))
      exact hk.put hy T.ks (by rw [s.klen]; exact hx) (fun y h5 => (T.has y).1 h5)
  · rw [if_pos hi]; exact hk
theorem chgS_kr (s : Sd n h) (hk : KR h) (z key : Int) (hy : I64 key) : KR (chgS n h z key).2 := by
  unfold chgS
  by_cases hi : inZ n z
  · obtain ⟨x, hz, hx, hzx⟩ := inZ_nat hi
    rw [if_neg (by simpa using hi), hzx]
    split
    · next hm =>
      have T := change_ok s x key (has_mem.2 hm)
      exact hk.put hy T.ks (by rw [s.klen]; exact hx) (fun y h5 => .inl ((T.has y).1 h5))
    · exact hk
  · rw [if_pos hi]; exact hk
theorem KR.less (hk : KR h) {h' : HV} (hks : h'.ks = h.ks) (hm : ∀ y, hasV h' y → hasV h y) : KR h' := fun y hy => by
  rw [hks]
  exact hk y (has_mem.1 (hm y (has_mem.2 hy)))
theorem remS_kr (s : Sd n h) (hk : KR h) (z : Int) : KR (remS n h z).2 := by
  unfold remS
  by_cases hi : inZ n z
  · obtain ⟨x, hz, hx, hzx⟩ := inZ_nat hi
    rw [if_neg (by simpa using hi), hzx]
    split
    · next hm =>
      have T := out_ok s _ x (place_ids s x (has_mem.2 hm))
      exact hk.less T.ks (fun y h5 => ((T.has y).1 h5).1)
    · exact hk
  · rw [if_pos hi]; exact hk
theorem lowS_kr (s : Sd n h) (hk : KR h) (z : Int) : KR (lowS h z).2 := by
  unfold lowS
  split
  · next hf => exact fun y hy => by rw [lowerV_key s z (show y ∈ h.ids from hy)]; exact hf y hy
  · exact hk
theorem popS_kr (s : Sd n h) (hk : KR h) : KR (popS h).2 := by
  cases hx : h.ids[0]? with
  | none => rw [popS_none hx]; exact hk
  | some x =>
    rw [popS_some hx]
    have T := out_ok s 0 x hx
    exact hk.less T.ks (fun y h5 => ((T.has y).1 h5).1)
end Go.Proofs.Ytopikpjagjnbhaa
