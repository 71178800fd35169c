/- The heap and the document's tell alike: the new ones, Least, Key, lengths. -/
import Derived.Test.YtopikpjagjnbhaaZRfAct06
import Derived.Test.YtopikpjagjnbhaaInts03
import Derived.Deep.Slices
namespace Go.Proofs.Ytopikpjagjnbhaa
open Go.RowKit
variable {w0 w : World} {b mb n : Nat} {h : HV} {ids : List Nat} {keys : List Int} {TT : Nat → Prop}
structure Ac3 where
  kd : Int
  id : Int
  tk : Int
def acC3 (m : Ac3) : List Value := [.int .i64 m.kd, .int .i64 m.id, .int .i64 m.tk]
def acs3 (l : List Ac3) : List Value := (l.map acC3).flatten
theorem acs3_len (l : List Ac3) : (acs3 l).length = l.length * 3 := by
  unfold acs3
  induction l with
  | nil => rfl
  | cons r l ih =>
    rw [List.map_cons, List.flatten_cons, List.length_append, ih]
    simp [acC3]
    omega
theorem acs3_get : ∀ (l : List Ac3) (i : Nat) (m : Ac3), l[i]? = some m → ∀ j u, (acC3 m)[j]? = some u → (acs3 l)[i * 3 + j]? = some u
  | [], i, m, h, _, _, _ => by simp at h
  | x :: l, 0, m, h, j, u, hj => by
    simp at h
    subst h
    have hl : j < (acC3 x).length := (List.getElem?_eq_some_iff.1 hj).1
    show ((acC3 x) ++ acs3 l)[0 * 3 + j]? = some u
    rw [Nat.zero_mul, Nat.zero_add, List.getElem?_append_left hl, hj]
  | x :: l, i + 1, m, h, j, u, hj => by
    have h2 := acs3_get l i m (by simpa using h) j u hj
    show ((acC3 x) ++ acs3 l)[(i + 1) * 3 + j]? = some u
    rw [List.getElem?_append_right (by simp [acC3]; omega), show (i + 1) * 3 + j - (acC3 x).length = i * 3 + j by simp [acC3]; omega]
    exact h2
theorem ac3_read {w : World} {ad : Addr} {n c : Nat} {l : List Ac3} (h : Rds w 3 (some ad) n c (acs3 l)) (k : Nat) (m : Ac3) (hk : l[k]? = some m) :
    w.cell? (ad.add (k * 3)) = some (.int .i64 m.kd) ∧ w.cell? ⟨(ad.add (k * 3)).block, (ad.add (k * 3)).off + 1, none⟩ = some (.int .i64 m.id) ∧ w.cell? ⟨(ad.add (k * 3)).block, (ad.add (k * 3)).off + 2, none⟩ = some (.int .i64 m.tk) := by
  have h1 : ∀ j u, (acC3 m)[j]? = some u → w.cell? ((ad.add (k * 3)).add j) = some u := by
    intro j u hj
    rw [Go.Deep.add_add]
    exact h.cell ad rfl _ _ (acs3_get l k m hk j u hj)
  exact ⟨h1 0 _ rfl, h1 1 _ rfl, h1 2 _ rfl⟩
/-- Two that are new. -/
theorem ph_new {w1 w2 : World} {h : HV} (H : Hx w w1 b n h) (h0 : h.ids = []) (hb2 : Below w1.heap.size w1 w2) (R : Rf w2 w1.heap.size w1.heap.size n (.slice none 0 0) (.slice none 0 0) [] []) : ∃ T, Ph w w2 b w1.heap.size n h [] [] T ∧ PR h [] [] := by
  obtain ⟨S, hz⟩ := H.hz
  have hs := hz.hx.bl.size
  refine ⟨_, ⟨S, .slice none 0 0, .slice none 0 0, hz.below hb2, ⟨R.mo, R.ib, R.kb, World.ownsRow_nil _ _ _ _, World.ownsRow_nil _ _ _ _, R.n1, R.n2, hs⟩, fun k hk => ⟨?_, (fun e => by cases e), (fun e => by cases e)⟩, fun _ => Iff.rfl⟩, ?_, ?_⟩
  · have := hz.lt hk
    omega
  · rw [h0]; simp [byKeys]
  · rfl
/-- What Least tells. -/
def leastV (h : HV) : Int × Int × Bool := match (h.ids[0]? : Option Nat) with
  | none => (0, 0, false)
  | some x => (((x : Nat) : Int), h.ks.getD x 0, true)
/-- What Key tells. -/
def keyV (n : Nat) (h : HV) (z : Int) : Int × Bool := if inZ n z ∧ z.toNat ∈ h.ids then (h.ks.getD z.toNat 0, true) else (0, false)
theorem ckey (P : Ph w0 w b mb n h ids keys TT) (h0 : 0 < n) (z : Int) :
    Calls Try.prog 15 #[.pointer (some ⟨b, 0, none⟩), .int .i64 z] w fun e w' => e = .returned (.tuple #[.int .i64 (keyV n h z).1, .bool (keyV n h z).2]) ∧ w = w' := by
  have s := P.sd
  obtain ⟨S, v1, v2, h1, h2, h3, h4⟩ := P
  by_cases hi : inZ n z
  · obtain ⟨x, hz, hx, hzx⟩ := inZ_nat hi
    by_cases hm : x ∈ h.ids
    · have es : keyV n h z = (h.ks.getD x 0, true) := by unfold keyV; rw [hzx, if_pos ⟨hi, hm⟩]
      rw [es]
      exact zkey h1 x z hz (has_mem.2 hm)
    · have es : keyV n h z = (0, false) := by unfold keyV; rw [hzx, if_neg (fun e => hm e.2)]
      rw [es]
      exact zkeyNo h1 h0 z (by rw [hz, find_no s x hx (fun e => hm (has_mem.1 e)) 4]; decide)
  · have es : keyV n h z = (0, false) := by unfold keyV; rw [if_neg (fun e => hi e.1)]
    rw [es]
    exact zkeyNo h1 h0 z (by rw [find_out (h := h) z (inZ_out hi) true 4]; decide)
theorem dkey (P : Ph w0 w b mb n h ids keys TT) (Q : PR h ids keys) (hn : n ≤ 4096) (z : Int) :
    Calls Try.prog 23 #[.pointer (some ⟨mb, 0, none⟩), .int .i64 z] w fun e w' => e = .returned (.tuple #[.int .i64 (keyV n h z).1, .bool (keyV n h z).2]) ∧ w = w' := by
  have s := P.sd
  obtain ⟨S, v1, v2, h1, R, h3, h4⟩ := P
  have hl : ids.length ≤ 4096 := by rw [Q.len]; have := ids_le s; omega
  by_cases hi : inZ n z ∧ z.toNat ∈ h.ids
  · obtain ⟨x, hz, hx, hzx⟩ := inZ_nat hi.1
    have es : keyV n h z = (h.ks.getD x 0, true) := by unfold keyV; rw [if_pos hi, hzx]
    rw [es]
    obtain ⟨i, hat⟩ := at_of Q s (x := x) (by rw [← hzx]; exact hi.2)
    have h5 := rfkeyYes R z i (by rw [hz]; exact hat) hl
    rw [Q.key hat.1, show ids.getD i 0 = x by exact_mod_cast hat.2.1] at h5
    exact h5
  · have es : keyV n h z = (0, false) := by unfold keyV; rw [if_neg hi]
    rw [es]
    refine rfkeyNo R z (fun j hj e => hi ?_) hl
    have hm : ids.getD j 0 ∈ ids := by rw [List.getD_eq_getElem?_getD, List.getElem?_eq_getElem hj]; exact List.getElem_mem hj
    have hv := Q.mem.1 hm
    have hlt := has_lt s hv
    refine ⟨⟨by omega, by omega⟩, ?_⟩
    have h6 : z.toNat = ids.getD j 0 := by omega
    rw [h6]
    exact has_mem.1 hv
theorem cleast (P : Ph w0 w b mb n h ids keys TT) (h0 : 0 < n) :
    Calls Try.prog 21 #[.pointer (some ⟨b, 0, none⟩)] w fun e w' => e = .returned (.tuple #[.int .i64 (leastV h).1, .int .i64 (leastV h).2.1, .bool (leastV h).2.2]) ∧ Below w.heap.size w w' := by
  have s := P.sd
  obtain ⟨S, v1, v2, ⟨gk, gp, ck, cp, iv, H1, H2, _⟩, h2, h3, h4⟩ := P
  cases hx : h.ids[0]? with
  | none =>
    have es : leastV h = (0, 0, false) := by unfold leastV; rw [hx]
    rw [es]
    have hl : h.ids.length = 0 := by
      have := List.getElem?_eq_none_iff.1 hx
      omega
    refine (hleastNo H1 h0 hl).mono ?_
    rintro e w' ⟨he, hw⟩
    exact ⟨he, hw ▸ Below.refl _ _⟩
  | some x =>
    have es : leastV h = (((x : Nat) : Int), h.ks.getD x 0, true) := by unfold leastV; rw [hx]
    rw [es]
    refine (hleastOk H1 s x hx).mono ?_
    rintro e w' ⟨he, hw⟩
    exact ⟨he, hw⟩
theorem dleast (P : Ph w0 w b mb n h ids keys TT) (Q : PR h ids keys) :
    Calls Try.prog 22 #[.pointer (some ⟨mb, 0, none⟩)] w fun e w' => e = .returned (.tuple #[.int .i64 (leastV h).1, .int .i64 (leastV h).2.1, .bool (leastV h).2.2]) ∧ Below w.heap.size w w' := by
  have s := P.sd
  obtain ⟨S, v1, v2, h1, R, h3, h4⟩ := P
  cases hx : h.ids[0]? with
  | none =>
    have es : leastV h = (0, 0, false) := by unfold leastV; rw [hx]
    rw [es]
    have e1 : ids = [] := List.length_eq_zero_iff.1 (by rw [Q.len]; have := List.getElem?_eq_none_iff.1 hx; omega)
    have e2 : keys = [] := by rw [Q.k, e1]; rfl
    rw [e1, e2] at R
    refine (rfleastNo R).mono ?_
    rintro e w' ⟨he, rfl⟩
    exact ⟨he, Below.refl _ _⟩
  | some x =>
    have es : leastV h = (((x : Nat) : Int), h.ks.getD x 0, true) := by unfold leastV; rw [hx]
    rw [es]
    obtain ⟨k1, k2, k3⟩ := pr_head Q s hx
    have h5 := rfleast R k1
    rw [k2, k3] at h5
    exact h5
end Go.Proofs.Ytopikpjagjnbhaa
