/- EventBack, plain: rows and their bytes. -/
import Derived.Test.YtdnddoiemaifjaaEvRead
import Derived.Test.YtdnddoiemaifjaaEvAll
import Derived.Test.YtdnddoiemaifjaaBackPlain
import Derived.Test.YtdnddoiemaifjaaOneStr
namespace Go.Proofs.Ytdnddoiemaifjaa
open Go.RowKit
theorem gotE_of {T : Type} {z v : T} {f : List Int → Except Int (T × List Int)} {bs rest : List Int} (h : f bs = .ok (v, rest)) : gotE z f bs 0 = (v, rest, 0) := gotE_ok h
theorem numM_enc' {n m : Nat} (h : n < 18446744073709551616) (hm : n ≤ m) (r : List Int) : numM (enc n ++ r) m = .ok (n, r) := by
  unfold numM
  rw [numS_enc h]
  simp only
  rw [if_pos hm]
theorem numQ_enc {x : Int} (h0 : 0 ≤ x) (h1 : x ≤ 1099511627776) (so : Bool) (r : List Int) (hx : so = false → x = 0) : numQ so ((if so then enc x.toNat else []) ++ r) 0 = (x, r, 0) := by
  cases so with
  | false => unfold numQ; rw [hx rfl]; rfl
  | true =>
    unfold numQ
    simp only [if_pos]
    rw [gotE_of (z := 0) (f := fun bs => numM bs 4611686018427387904) (numM_enc' (n := x.toNat) (m := 4611686018427387904) (by omega) (by omega) r)]
    simp only
    rw [Int.toNat_of_nonneg h0]
theorem intQ_enc {x : Int} (h : I64 x) (r : List Int) : intQ (enc (zigN x) ++ r) 0 = (x, r, 0) := by
  unfold intQ
  exact gotE_of (z := 0) (f := fun bs => withinM bs (-9223372036854775808) 9223372036854775807) (withinM_enc h r)
theorem regsF_enc (e : Ev) (a0 a1 a2 a3 a4 a5 a6 a7 : Int) (h : ∀ x ∈ [a0, a1, a2, a3, a4, a5, a6, a7], I64 x) (r : List Int) : regsF 8 e (encs [a0, a1, a2, a3, a4, a5, a6, a7] ++ r) 0 = ({ e with r0 := a0, r1 := a1, r2 := a2, r3 := a3, r4 := a4, r5 := a5, r6 := a6, r7 := a7 }, r, 0) := by
  have e0 : encs [a0, a1, a2, a3, a4, a5, a6, a7] ++ r = enc (zigN a0) ++ (enc (zigN a1) ++ (enc (zigN a2) ++ (enc (zigN a3) ++ (enc (zigN a4) ++ (enc (zigN a5) ++ (enc (zigN a6) ++ (enc (zigN a7) ++ r))))))) := by simp [encs]
  rw [e0]
  simp only [regsF]
  rw [intQ_enc (h a0 (by simp)), intQ_enc (h a1 (by simp)), intQ_enc (h a2 (by simp)), intQ_enc (h a3 (by simp)), intQ_enc (h a4 (by simp)), intQ_enc (h a5 (by simp)), intQ_enc (h a6 (by simp)), intQ_enc (h a7 (by simp))]
  cases e
  simp only [setR]
theorem good_zero {e : Ev} (h : goodB e = true) : (tT e.kind = false → e.thread = 0) ∧ (tV e.kind = false → e.value = 0) ∧ (tA e.kind = false → e.act = 0) ∧ (tC e.kind = false → ctx0 e = true) ∧ tK e.kind = true := by
  unfold goodB at h
  simp only [Bool.and_eq_true] at h
  obtain ⟨hk, ha, ht, hv, hc⟩ := h
  refine ⟨fun h => ?_, fun h => ?_, fun h => ?_, fun h => ?_, hk⟩
  · rw [h] at ht; exact inB_not ht
  · rw [h] at hv; exact inB_not hv
  · rw [h] at ha; exact inB_not ha
  · rw [h] at hc; simpa using hc
theorem ctx0_parts {e : Ev} (h : ctx0 e = true) : e.program = 0 ∧ e.pc = 0 ∧ e.depth = 0 ∧ e.r0 = 0 ∧ e.r1 = 0 ∧ e.r2 = 0 ∧ e.r3 = 0 ∧ e.r4 = 0 ∧ e.r5 = 0 ∧ e.r6 = 0 ∧ e.r7 = 0 := by
  unfold ctx0 at h
  simp only [Bool.and_eq_true, beq_iff_eq] at h
  obtain ⟨h1, h2, ⟨h3, h4, h5, h6, h7, h8, h9, h10⟩, h11⟩ := h
  exact ⟨h1, h2, h11, h3, h4, h5, h6, h7, h8, h9, h10⟩
theorem nextM_enc {e : Ev} (hg : goodB e = true) (hI : ∀ x ∈ evRegs e, I64 x) (r : List Int) : nextM (bytesEv e ++ r) = (e, r, 0) := by
  obtain ⟨k1, k7, a0, a1, t0, t1, v0, v1, hc⟩ := good_parts hg
  obtain ⟨z1, z2, z3, z4, z5⟩ := good_zero hg
  obtain ⟨e0, e1, e2, e3, e4, e5, e6, e7, e8, e9, e10, e11, e12, e13, e14⟩ := e
  simp only at k1 k7 a0 a1 t0 t1 v0 v1 hc z1 z2 z3 z4 z5
  have hb : bytesEv (⟨e0, e1, e2, e3, e4, e5, e6, e7, e8, e9, e10, e11, e12, e13, e14⟩ : Ev) ++ r = e0 :: (enc e1.toNat ++ ((if tT e0 then enc e2.toNat else []) ++ ((if tV e0 then enc e3.toNat else []) ++ ((if tC e0 then enc e4.toNat ++ enc e5.toNat ++ enc e14.toNat ++ encs [e6, e7, e8, e9, e10, e11, e12, e13] else []) ++ r)))) := by
    unfold bytesEv evRegs
    simp only [List.append_assoc, List.cons_append, List.nil_append]
  rw [hb]
  have ho : gotE 0 octM (e0 :: (enc e1.toNat ++ ((if tT e0 then enc e2.toNat else []) ++ ((if tV e0 then enc e3.toNat else []) ++ ((if tC e0 then enc e4.toNat ++ enc e5.toNat ++ enc e14.toNat ++ encs [e6, e7, e8, e9, e10, e11, e12, e13] else []) ++ r))))) 0 = (e0, enc e1.toNat ++ ((if tT e0 then enc e2.toNat else []) ++ ((if tV e0 then enc e3.toNat else []) ++ ((if tC e0 then enc e4.toNat ++ enc e5.toNat ++ enc e14.toNat ++ encs [e6, e7, e8, e9, e10, e11, e12, e13] else []) ++ r))), 0) := gotE_of rfl
  unfold nextM
  rw [ho]
  simp only
  rw [if_pos z5]
  unfold nextK
  have n1 : numQ true (enc e1.toNat ++ ((if tT e0 then enc e2.toNat else []) ++ ((if tV e0 then enc e3.toNat else []) ++ ((if tC e0 then enc e4.toNat ++ enc e5.toNat ++ enc e14.toNat ++ encs [e6, e7, e8, e9, e10, e11, e12, e13] else []) ++ r)))) 0 = (e1, _, 0) := numQ_enc (x := e1) (by omega) (by omega) true _ (fun h => by cases h)
  simp only [Q6, Q5, Q4, Q3, Q2]
  rw [n1]
  simp only
  rw [numQ_enc (x := e2) (by omega) (by omega) (tT e0) _ z1]
  simp only
  rw [numQ_enc (x := e3) (by omega) (by omega) (tV e0) _ z2]
  simp only
  cases hcc : tC e0 with
  | false =>
    obtain ⟨c1, c2, c3, c4, c5, c6, c7, c8, c9, c10, c11⟩ := ctx0_parts (z4 hcc)
    simp only at c1 c2 c3 c4 c5 c6 c7 c8 c9 c10 c11
    subst c1 c2 c3 c4 c5 c6 c7 c8 c9 c10 c11
    rfl
  | true =>
    have hc' := hc hcc
    rw [if_pos rfl, if_pos rfl]
    have q4 : numQ true (enc e4.toNat ++ enc e5.toNat ++ enc e14.toNat ++ encs [e6, e7, e8, e9, e10, e11, e12, e13] ++ r) 0 = (e4, enc e5.toNat ++ (enc e14.toNat ++ (encs [e6, e7, e8, e9, e10, e11, e12, e13] ++ r)), 0) := by
      have := numQ_enc (x := e4) (by omega) (by omega) true (enc e5.toNat ++ (enc e14.toNat ++ (encs [e6, e7, e8, e9, e10, e11, e12, e13] ++ r))) (fun h => by cases h)
      simpa only [if_pos, List.append_assoc] using this
    have q5 : numQ true (enc e5.toNat ++ (enc e14.toNat ++ (encs [e6, e7, e8, e9, e10, e11, e12, e13] ++ r))) 0 = (e5, enc e14.toNat ++ (encs [e6, e7, e8, e9, e10, e11, e12, e13] ++ r), 0) := numQ_enc (x := e5) (by omega) (by omega) true _ (fun h => by cases h)
    have q6 : numQ true (enc e14.toNat ++ (encs [e6, e7, e8, e9, e10, e11, e12, e13] ++ r)) 0 = (e14, encs [e6, e7, e8, e9, e10, e11, e12, e13] ++ r, 0) := numQ_enc (x := e14) (by omega) (by omega) true _ (fun h => by cases h)
    rw [q4]
    simp only
    rw [q5]
    simp only
    rw [q6]
    simp only
    rw [regsF_enc _ e6 e7 e8 e9 e10 e11 e12 e13 (by simpa [evRegs] using hI) r]
theorem readF_enc : ∀ (l acc : List Ev) (s : List Int), (∀ e ∈ l, goodB e = true ∧ ∀ x ∈ evRegs e, I64 x) → readF l.length (l.flatMap bytesEv ++ s) acc = if s.length = 0 then some (acc ++ l) else none
  | [], acc, s, _ => by simp [readF]
  | e :: l, acc, s, h => by
    obtain ⟨hg, hI⟩ := h e (by simp)
    have ih := readF_enc l (acc ++ [e]) s (fun e' he => h e' (by simp [he]))
    rw [List.length_cons, readF_succ, List.flatMap_cons, List.append_assoc, nextM_enc hg hI]
    simp only
    rw [if_pos ⟨trivial, hg⟩, ih]
    simp
theorem readM_enc {l : List Ev} (hl : l.length ≤ 1024) (h : ∀ e ∈ l, goodB e = true ∧ ∀ x ∈ evRegs e, I64 x) (s : List Int) : readM (rowE l ++ s) = if s.length = 0 then some l else none := by
  have hn : gotE 0 (fun bs => numM bs 1024) (rowE l ++ s) 0 = (l.length, l.flatMap bytesEv ++ s, 0) := by
    unfold rowE
    rw [List.append_assoc]
    exact gotE_of (z := 0) (f := fun bs => numM bs 1024) (numM_enc' (by omega) hl _)
  unfold readM
  rw [hn]
  simp only
  rw [if_pos trivial, readF_enc l [] s h]
  simp
theorem octM_ok' {bs : List Int} (h0 : (gotE 0 octM bs 0).2.2 ≠ 0) : (gotE 0 octM bs 0).1 = 0 := by
  unfold gotE at h0 ⊢
  rw [if_neg (by decide)] at h0 ⊢
  cases ho : octM bs with
  | error x => rfl
  | ok q => rw [ho] at h0; exact absurd rfl h0
theorem numQ_wrap' {bs : List Int} (hb : U8s bs) {so : Bool} {er : Int} {q : Int × List Int × Int} (hq : numQ so bs er = q) : U8s q.2.1 := by
  have hu := numQ_u8 hb so er
  rw [hq] at hu
  exact hu.1
theorem zig_zag {v : Nat} (h : v < 18446744073709551616) : zigN (zagV v) = v := by
  unfold zigN zagV
  by_cases hv : v % 2 = 0
  · rw [if_pos hv, if_pos (by omega)]; omega
  · rw [if_neg hv, if_neg (by omega)]; omega
theorem numM_ok' {bs : List Int} {m v : Nat} {rest : List Int} (h : numM bs m = .ok (v, rest)) : numS bs = .ok (v, rest) ∧ v ≤ m := by
  unfold numM at h
  cases hn : numS bs with
  | error e => rw [hn] at h; cases h
  | ok q =>
    obtain ⟨v', r'⟩ := q
    rw [hn] at h
    simp only at h
    split at h
    · rename_i hv
      cases h
      exact ⟨rfl, hv⟩
    · cases h
theorem gotE_inv {T : Type} {z v : T} {f : List Int → Except Int (T × List Int)} {bs rest : List Int} {er : Int} (h : gotE z f bs er = (v, rest, 0)) (hw : ∀ x, f bs = .error x → x ≠ 0) : er = 0 ∧ f bs = .ok (v, rest) := by
  unfold gotE at h
  by_cases h0 : er = 0
  · rw [if_neg (by simp [h0])] at h
    refine ⟨h0, ?_⟩
    cases hf : f bs with
    | error x =>
      rw [hf] at h
      simp only [Prod.mk.injEq] at h
      exact absurd h.2.2 (hw x hf)
    | ok q =>
      obtain ⟨v', r'⟩ := q
      rw [hf] at h
      simp only [Prod.mk.injEq] at h
      obtain ⟨rfl, rfl, _⟩ := h
      rfl
  · rw [if_pos h0] at h
    simp only [Prod.mk.injEq] at h
    exact absurd h.2.2 h0
theorem well_ne {T : Type} {bs : List Int} {r : Except Int (T × List Int)} {P : T → Prop} (h : Well bs r P) : ∀ x, r = .error x → x ≠ 0 := by
  intro x hx
  subst hx
  exact h
theorem numQ_inv {so : Bool} {bs rest : List Int} {er v : Int} (hu : U8s bs) (h : numQ so bs er = (v, rest, 0)) : er = 0 ∧ bs = (if so then enc v.toNat else []) ++ rest ∧ U8s rest := by
  have hu2 := (numQ_u8 hu so er).1
  rw [h] at hu2
  cases so with
  | false =>
    unfold numQ at h
    simp only [Bool.false_eq_true, if_false, Prod.mk.injEq] at h
    obtain ⟨rfl, rfl, rfl⟩ := h
    exact ⟨rfl, rfl, hu⟩
  | true =>
    unfold numQ at h
    simp only [if_pos] at h
    obtain ⟨⟨x, r', e'⟩, hq⟩ : ∃ q, gotE 0 (fun bs => numM bs 4611686018427387904) bs er = q := ⟨_, rfl⟩
    rw [hq] at h
    simp only [Prod.mk.injEq] at h
    obtain ⟨rfl, rfl, rfl⟩ := h
    obtain ⟨h0, hf⟩ := gotE_inv hq (well_ne (well_numM hu 4611686018427387904))
    have := (numS_ok hu (numM_ok' hf).1).2
    refine ⟨h0, ?_, hu2⟩
    rw [this]
    rfl
theorem intQ_inv {bs rest : List Int} {er x : Int} (hu : U8s bs) (h : intQ bs er = (x, rest, 0)) : er = 0 ∧ bs = enc (zigN x) ++ rest ∧ U8s rest ∧ I64 x := by
  have hu2 := intQ_u8 hu er
  rw [h] at hu2
  unfold intQ at h
  obtain ⟨h0, hf⟩ := gotE_inv h (well_ne (well_within hu (-9223372036854775808) 9223372036854775807))
  refine ⟨h0, ?_, hu2.1, hu2.2.2⟩
  unfold withinM thenE at hf
  cases hn : numS bs with
  | error e => rw [hn] at hf; cases hf
  | ok q =>
    obtain ⟨v, r⟩ := q
    rw [hn] at hf
    simp only at hf
    split at hf
    · cases hf
      obtain ⟨h1, h2⟩ := numS_ok hu hn
      rw [zig_zag h1]
      exact h2
    · cases hf
def regsL (e : Ev) (xs : List Int) : Ev := (List.range xs.length).foldl (fun e i => setR e i (xs.getD i 0)) e
theorem regsL_snoc (e : Ev) (xs : List Int) (x : Int) : regsL e (xs ++ [x]) = setR (regsL e xs) xs.length x := by
  unfold regsL
  rw [List.length_append, List.length_singleton, List.range_succ, List.foldl_append]
  simp only [List.foldl_cons, List.foldl_nil]
  have e1 : (xs ++ [x]).getD xs.length 0 = x := by simp [List.getD]
  rw [e1]
  congr 1
  have : ∀ (ns : List Nat) (e : Ev), (∀ i ∈ ns, i < xs.length) → ns.foldl (fun e i => setR e i ((xs ++ [x]).getD i 0)) e = ns.foldl (fun e i => setR e i (xs.getD i 0)) e := by
    intro ns
    induction ns with
    | nil => intro e _; rfl
    | cons i ns ih =>
      intro e h
      have hi := h i (by simp)
      simp only [List.foldl_cons]
      rw [ih _ (fun j hj => h j (by simp [hj]))]
      congr 2
      simp [List.getD, List.getElem?_append_left hi]
  exact this _ _ (fun i hi => by simpa using hi)
theorem regsF_inv : ∀ (j : Nat) (e : Ev) (bs : List Int) (er : Int) (e' : Ev) (rest : List Int), U8s bs → regsF j e bs er = (e', rest, 0) → er = 0 ∧ U8s rest ∧ ∃ xs : List Int, xs.length = j ∧ (∀ x ∈ xs, I64 x) ∧ bs = encs xs ++ rest ∧ e' = regsL e xs
  | 0, e, bs, er, e', rest, hu, h => by
    simp only [regsF, Prod.mk.injEq] at h
    obtain ⟨rfl, rfl, rfl⟩ := h
    exact ⟨rfl, hu, [], rfl, (fun x hx => by cases hx), rfl, rfl⟩
  | j + 1, e, bs, er, e', rest, hu, h => by
    obtain ⟨⟨pe, pb, pr⟩, hp⟩ : ∃ q, regsF j e bs er = q := ⟨_, rfl⟩
    simp only [regsF] at h
    rw [hp] at h
    simp only at h
    obtain ⟨⟨x, r', e9⟩, hq⟩ : ∃ q, intQ pb pr = q := ⟨_, rfl⟩
    rw [hq] at h
    simp only [Prod.mk.injEq] at h
    obtain ⟨rfl, rfl, rfl⟩ := h
    have hpr : pr = 0 := by
      by_cases h0 : pr = 0
      · exact h0
      · unfold intQ at hq; rw [gotE_err h0] at hq; simp only [Prod.mk.injEq] at hq; exact absurd hq.2.2 h0
    subst hpr
    obtain ⟨h0, hu1, xs, hx, hI, hb, he⟩ := regsF_inv j e bs er pe pb hu hp
    obtain ⟨_, hb2, hu2, hI2⟩ := intQ_inv hu1 hq
    refine ⟨h0, hu2, xs ++ [x], by simp [hx], ?_, ?_, ?_⟩
    · intro y hy
      rcases List.mem_append.1 hy with hy | hy
      · exact hI y hy
      · simp at hy; subst hy; exact hI2
    · rw [encs_snoc, List.append_assoc, ← hb2]; exact hb
    · rw [regsL_snoc, hx, he]
theorem nextM_inv {bs rest : List Int} {e : Ev} (hu : U8s bs) (h : nextM bs = (e, rest, 0)) (hg : goodB e = true) : bs = bytesEv e ++ rest ∧ U8s rest ∧ ∀ x ∈ evRegs e, I64 x := by
  obtain ⟨⟨k, bs1, er1⟩, hq⟩ : ∃ q, gotE 0 octM bs 0 = q := ⟨_, rfl⟩
  have hok := octM_ok' (bs := bs)
  rw [hq] at hok
  simp only at hok
  unfold nextM at h
  rw [hq] at h
  simp only at h
  cases hk : tK k with
  | false =>
    rw [if_neg (by rw [hk]; decide)] at h
    simp only [Prod.mk.injEq] at h
    obtain ⟨_, _, h3⟩ := h
    exfalso
    by_cases h0 : er1 = 0
    · rw [if_neg (by simp [h0])] at h3; cases h3
    · rw [if_pos h0] at h3; exact h0 h3
  | true =>
    rw [if_pos hk] at h
    have h0 : er1 = 0 := by
      by_cases h0 : er1 = 0
      · exact h0
      · rw [hok h0] at hk; cases hk
    subst h0
    obtain ⟨_, hoc⟩ := gotE_inv hq (well_ne (well_oct hu))
    have hbs : bs = k :: bs1 := by
      cases bs with
      | nil => cases hoc
      | cons a l => unfold octM at hoc; cases hoc; rfl
    have hu1 : U8s bs1 := fun x hx => hu x (by rw [hbs]; simp [hx])
    obtain ⟨⟨v1, b2, r2⟩, q1⟩ : ∃ q, numQ true bs1 0 = q := ⟨_, rfl⟩
    obtain ⟨⟨v2, b3, r3⟩, q2⟩ : ∃ q, numQ (tT k) b2 r2 = q := ⟨_, rfl⟩
    obtain ⟨⟨v3, b4, r4⟩, q3⟩ : ∃ q, numQ (tV k) b3 r3 = q := ⟨_, rfl⟩
    obtain ⟨⟨v4, b5, r5⟩, q4⟩ : ∃ q, numQ (tC k) b4 r4 = q := ⟨_, rfl⟩
    obtain ⟨⟨v5, b6, r6⟩, q5⟩ : ∃ q, numQ (tC k) b5 r5 = q := ⟨_, rfl⟩
    obtain ⟨⟨v6, b7, r7⟩, q6⟩ : ∃ q, numQ (tC k) b6 r6 = q := ⟨_, rfl⟩
    unfold nextK at h
    simp only [Q6, Q5, Q4, Q3, Q2, q1, q2, q3, q4, q5, q6] at h
    have u2 : U8s b2 := (numQ_wrap' hu1 q1)
    have u3 : U8s b3 := (numQ_wrap' u2 q2)
    have u4 : U8s b4 := (numQ_wrap' u3 q3)
    have u5 : U8s b5 := (numQ_wrap' u4 q4)
    have u6 : U8s b6 := (numQ_wrap' u5 q5)
    have u7 : U8s b7 := (numQ_wrap' u6 q6)
    cases hc : tC k with
    | false =>
      rw [hc] at h q4 q5 q6
      simp only [Bool.false_eq_true, if_false, Prod.mk.injEq] at h
      obtain ⟨rfl, rfl, rfl⟩ := h
      obtain ⟨rfl, i6, _⟩ := numQ_inv u6 q6
      obtain ⟨rfl, i5, _⟩ := numQ_inv u5 q5
      obtain ⟨rfl, i4, _⟩ := numQ_inv u4 q4
      obtain ⟨rfl, i3, _⟩ := numQ_inv u3 q3
      obtain ⟨rfl, i2, _⟩ := numQ_inv u2 q2
      obtain ⟨_, i1, _⟩ := numQ_inv hu1 q1
      simp only [Bool.false_eq_true, if_false, List.nil_append] at i4 i5 i6
      refine ⟨?_, u7, ?_⟩
      · rw [hbs, i1, i2, i3, i4, i5, i6]
        unfold bytesEv
        simp only [hc, Bool.false_eq_true, if_false, if_true, List.append_nil, List.append_assoc, List.cons_append, List.nil_append]
      · intro x hx
        simp [evRegs] at hx
        subst hx
        unfold I64
        decide
    | true =>
      rw [hc] at h q4 q5 q6
      simp only [if_true] at h
      obtain ⟨rfl, u8, xs, hx, hI, hb7, he⟩ := regsF_inv 8 _ b7 r7 e rest u7 h
      obtain ⟨rfl, i6, _⟩ := numQ_inv u6 q6
      obtain ⟨rfl, i5, _⟩ := numQ_inv u5 q5
      obtain ⟨rfl, i4, _⟩ := numQ_inv u4 q4
      obtain ⟨rfl, i3, _⟩ := numQ_inv u3 q3
      obtain ⟨rfl, i2, _⟩ := numQ_inv u2 q2
      obtain ⟨_, i1, _⟩ := numQ_inv hu1 q1
      simp only [if_true] at i1 i4 i5 i6
      obtain ⟨x0, x1, x2, x3, x4, x5, x6, x7, rfl⟩ : ∃ x0 x1 x2 x3 x4 x5 x6 x7, xs = [x0, x1, x2, x3, x4, x5, x6, x7] := by
        match xs, hx with
        | [x0, x1, x2, x3, x4, x5, x6, x7], _ => exact ⟨x0, x1, x2, x3, x4, x5, x6, x7, rfl⟩
      have he' : e = ⟨k, v1, v2, v3, v4, v5, x0, x1, x2, x3, x4, x5, x6, x7, v6⟩ := he
      subst he'
      refine ⟨?_, u8, hI⟩
      rw [hbs, i1, i2, i3, i4, i5, i6, hb7]
      unfold bytesEv evRegs
      simp only [hc, if_true, List.append_assoc, List.cons_append, List.nil_append]
theorem readF_inv : ∀ (n : Nat) (bs : List Int) (acc l : List Ev), U8s bs → readF n bs acc = some l → ∃ k : List Ev, l = acc ++ k ∧ k.length = n ∧ bs = k.flatMap bytesEv ∧ ∀ e ∈ k, goodB e = true ∧ ∀ x ∈ evRegs e, I64 x
  | 0, bs, acc, l, hu, h => by
    unfold readF at h
    split at h
    · rename_i hb
      cases h
      exact ⟨[], by simp, rfl, List.eq_nil_of_length_eq_zero hb, fun e he => by cases he⟩
    · cases h
  | n + 1, bs, acc, l, hu, h => by
    rw [readF_succ] at h
    split at h
    · rename_i hc
      obtain ⟨⟨e, rest, er⟩, hq⟩ : ∃ q, nextM bs = q := ⟨_, rfl⟩
      rw [hq] at h hc
      obtain ⟨hc1, hc2⟩ := hc
      simp only at hc1 hc2 h
      subst hc1
      obtain ⟨hb, hu2, hI⟩ := nextM_inv hu hq hc2
      obtain ⟨k, hl, hk, hb2, hall⟩ := readF_inv n rest (acc ++ [e]) l hu2 h
      refine ⟨e :: k, by rw [hl]; simp, by simp [hk], by rw [hb, hb2]; simp, ?_⟩
      intro e' he'
      rcases List.mem_cons.1 he' with rfl | he'
      · exact ⟨hc2, hI⟩
      · exact hall e' he'
    · cases h
theorem readM_inv {bs : List Int} {l : List Ev} (hu : U8s bs) (h : readM bs = some l) : bs = rowE l ∧ l.length ≤ 1024 ∧ ∀ e ∈ l, goodB e = true ∧ ∀ x ∈ evRegs e, I64 x := by
  unfold readM at h
  obtain ⟨⟨n, rest, er⟩, hq⟩ : ∃ q, gotE 0 (fun bs => numM bs 1024) bs 0 = q := ⟨_, rfl⟩
  rw [hq] at h
  simp only at h
  split at h
  · rename_i h0
    subst h0
    obtain ⟨_, hf⟩ := gotE_inv hq (well_ne (well_numM hu 1024))
    obtain ⟨h1, h2⟩ := numM_ok' hf
    have hb := (numS_ok hu h1).2
    have hu2 := (gotE_u8 (z := 0) (f := fun bs => numM bs 1024) (well_numM hu 1024) hu 0).1
    rw [hq] at hu2
    obtain ⟨k, hl, hk, hb2, hall⟩ := readF_inv n rest [] l hu2 h
    rw [List.nil_append] at hl
    subst hl
    refine ⟨?_, by omega, hall⟩
    unfold rowE
    rw [hb, hb2, hk]
  · cases h
theorem allE_good {l : List Ev} (h : ∀ e ∈ l, goodB e = true) : allE l = rowE l := by
  unfold allE badE
  rw [List.any_eq_false.2 (fun e he => by rw [h e he]; decide)]
  rfl
theorem u8_enc {n : Nat} (h : n < 18446744073709551616) : U8s (enc n) := fun x hx => enc_in h x hx
theorem u8_app {a b : List Int} (ha : U8s a) (hb : U8s b) : U8s (a ++ b) := fun x hx => (List.mem_append.1 hx).elim (ha x) (hb x)
theorem u8_encs {l : List Int} (h : ∀ x ∈ l, I64 x) : U8s (encs l) := by
  intro y hy
  unfold encs at hy
  obtain ⟨x, hx, hy⟩ := List.mem_flatMap.1 hy
  exact u8_enc (zigN_lt x (h x hx).1 (h x hx).2) y hy
theorem u8_if {so : Bool} {a : List Int} (h : U8s a) : U8s (if so then a else []) := by cases so; exact fun x hx => (by cases hx); exact h
theorem u8_bytesEv {e : Ev} (hg : goodB e = true) (hI : ∀ x ∈ evRegs e, I64 x) : U8s (bytesEv e) := by
  obtain ⟨k1, k7, a0, a1, t0, t1, v0, v1, hc⟩ := good_parts hg
  have hk : U8s [e.kind] := fun x hx => by simp at hx; subst hx; omega
  have h1 := u8_enc (n := e.act.toNat) (by omega)
  have h2 := u8_enc (n := e.thread.toNat) (by omega)
  have h3 := u8_enc (n := e.value.toNat) (by omega)
  unfold bytesEv
  refine u8_app (u8_app (u8_app (u8_app hk h1) (u8_if h2)) (u8_if h3)) ?_
  cases hcc : tC e.kind with
  | false => exact fun x hx => (by cases hx)
  | true =>
    obtain ⟨p0, p1, q0, q1, d0, d1⟩ := hc hcc
    exact u8_app (u8_app (u8_app (u8_enc (by omega)) (u8_enc (by omega))) (u8_enc (by omega))) (u8_encs hI)
theorem u8_allE {l : List Ev} (hl : l.length ≤ 1024) (h : ∀ e ∈ l, goodB e = true ∧ ∀ x ∈ evRegs e, I64 x) : U8s (allE l) := by
  rw [allE_good (fun e he => (h e he).1)]
  unfold rowE
  refine u8_app (u8_enc (by omega)) ?_
  intro y hy
  obtain ⟨e, he, hy⟩ := List.mem_flatMap.1 hy
  exact u8_bytesEv (h e he).1 (h e he).2 y hy
theorem allE_len {l : List Ev} (h : ∀ e ∈ l, goodB e = true) : 0 < (allE l).length ∧ (allE l).length ≤ 10 + 141 * l.length := by
  rw [allE_good h]
  unfold rowE
  have h1 := enc_pos l.length
  have h2 := enc_length l.length
  have h3 := flat_length l
  rw [List.length_append]
  omega
/-- A row that may be comes back. -/
theorem back_row {l : List Ev} (hl : l.length ≤ 1024) (h : ∀ e ∈ l, goodB e = true ∧ ∀ x ∈ evRegs e, I64 x) : readM (allE l) = some l := by
  rw [allE_good (fun e he => (h e he).1)]
  have := readM_enc hl h []
  simpa using this
/-- Bytes that are a row lead back. -/
theorem back_bytes {bs : List Int} {l : List Ev} (hu : U8s bs) (h : readM bs = some l) : allE l = bs := by
  obtain ⟨h1, _, h3⟩ := readM_inv hu h
  rw [allE_good (fun e he => (h3 e he).1), h1]
/-- With more behind they are none. -/
theorem back_more {l : List Ev} (hl : l.length ≤ 1024) (h : ∀ e ∈ l, goodB e = true ∧ ∀ x ∈ evRegs e, I64 x) (x : Int) : readM (allE l ++ [x]) = none := by
  rw [allE_good (fun e he => (h e he).1), readM_enc hl h [x]]
  rfl
/-- Cut they are none. -/
theorem back_cut {l : List Ev} (hl : l.length ≤ 1024) (h : ∀ e ∈ l, goodB e = true ∧ ∀ x ∈ evRegs e, I64 x) (hu : U8s (allE l)) {k : Nat} (hk : k < (allE l).length) : readM ((allE l).take k) = none := by
  cases hr : readM ((allE l).take k) with
  | none => rfl
  | some l' =>
    exfalso
    have hu' : U8s ((allE l).take k) := fun x hx => hu x (List.mem_of_mem_take hx)
    obtain ⟨h1, h2, h3⟩ := readM_inv hu' hr
    have e1 : allE l = rowE l' ++ (allE l).drop k := by rw [← h1, List.take_append_drop]
    have e2 := back_row hl h
    rw [e1, readM_enc h2 h3] at e2
    rw [if_neg (by rw [List.length_drop]; omega)] at e2
    cases e2
end Go.Proofs.Ytdnddoiemaifjaa
