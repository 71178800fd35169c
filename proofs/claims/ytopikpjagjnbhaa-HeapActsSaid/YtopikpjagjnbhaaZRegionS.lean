/- A region whose last operations wait for all that stand ahead of them: the others are walked once each, while memory grows; then the last ones, in order. -/
import Derived.Test.YtopikpjagjnbhaaRegion
import Derived.Test.YtopikpjagjnbhaaRegionJ
import Derived.Test.YtopikpjagjnbhaaChg
namespace Go.Proofs.Ytopikpjagjnbhaa
open Go.RowKit
/-- Whom an operation waits for, as bits. -/
def maskOf (acc : List Nat) (l : List Edge) : Nat := l.foldl (fun s e => if Region.binds .any e then s ||| 2 ^ e.on ||| acc.getD e.on 0 else s) 0
def masksOf : List Oper → List Nat → List Nat
  | [], acc => acc
  | o :: l, acc => masksOf l (acc ++ [maskOf acc o.after.toList])
/-- From m on each waits for all ahead of it. -/
def waitsAll (ops : List Oper) (m : Nat) : Bool := (List.range ops.length).all fun i => decide (i < m) || (List.range i).all fun j => ((masksOf ops []).getD i 0).testBit j
theorem maskOf_bit {acc : List Nat} {L : Nat → Prop} (hacc : ∀ i, L i → ∀ j, (acc.getD i 0).testBit j = true → L j) (l : List Edge) (hl : ∀ e ∈ l, Region.binds .any e = true → L e.on) (j : Nat) (h : (maskOf acc l).testBit j = true) : L j := by
  unfold maskOf at h
  have : ∀ (l : List Edge) (s : Nat), (∀ e ∈ l, Region.binds .any e = true → L e.on) → (∀ j, s.testBit j = true → L j) → ∀ j, (l.foldl (fun s e => if Region.binds .any e then s ||| 2 ^ e.on ||| acc.getD e.on 0 else s) s).testBit j = true → L j := by
    intro l
    induction l with
    | nil => intro s _ hs j h; exact hs j h
    | cons e l ih =>
      intro s hl hs j h
      simp only [List.foldl_cons] at h
      refine ih _ (fun e' he' => hl e' (by simp [he'])) ?_ j h
      intro j hj
      split at hj
      · rename_i hb
        rw [Nat.testBit_or, Nat.testBit_or, Bool.or_eq_true, Bool.or_eq_true] at hj
        have he := hl e (by simp) hb
        rcases hj with (h1 | h1) | h1
        · exact hs j h1
        · rw [Nat.testBit_two_pow] at h1
          have : e.on = j := by simpa using h1
          rw [← this]; exact he
        · exact hacc e.on he j h1
      · exact hs j hj
  exact this l 0 hl (by intro j h; simp at h) j h
theorem masksOf_bit {L : Nat → Prop} (ops : List Oper) (hC : ∀ i o, ops[i]? = some o → L i → ∀ e ∈ o.after, Region.binds .any e = true → L e.on) :
    ∀ (l : List Oper) (acc : List Nat), (∃ pre, ops = pre ++ l ∧ pre.length = acc.length) → (∀ i, L i → ∀ j, (acc.getD i 0).testBit j = true → L j) → ∀ i, L i → ∀ j, ((masksOf l acc).getD i 0).testBit j = true → L j
  | [], _, _, h => h
  | o :: l, acc, ⟨pre, he, hp⟩, h => by
    unfold masksOf
    refine masksOf_bit ops hC l _ ⟨pre ++ [o], by rw [he]; simp, by simp [hp]⟩ ?_
    intro i hi j hj
    rcases Nat.lt_trichotomy i acc.length with h1 | h1 | h1
    · rw [List.getD_eq_getElem?_getD, List.getElem?_append_left h1, ← List.getD_eq_getElem?_getD] at hj
      exact h i hi j hj
    · subst h1
      rw [List.getD_eq_getElem?_getD, List.getElem?_append_right (Nat.le_refl _)] at hj
      simp only [Nat.sub_self, List.getElem?_cons_zero, Option.getD_some] at hj
      exact maskOf_bit h _ (fun e hm hb => hC acc.length o (by rw [he, List.getElem?_append_right (by omega)]; simp [hp]) hi e (by simpa using hm) hb) j hj
    · rw [List.getD_eq_getElem?_getD, List.getElem?_eq_none (by simp; omega)] at hj
      simp at hj
theorem masks_wait {ops : List Oper} {m : Nat} (hw : waitsAll ops m = true) {L : Nat → Prop} (hC : ∀ i o, ops[i]? = some o → L i → ∀ e ∈ o.after, Region.binds .any e = true → L e.on) {i : Nat} (hm : m ≤ i) (hi : i < ops.length) (h : L i) : ∀ j, j < i → L j := by
  intro j hj
  unfold waitsAll at hw
  have h1 := List.all_eq_true.1 hw i (by simpa using hi)
  have h2 : decide (i < m) = false := by simp; omega
  rw [h2, Bool.false_or] at h1
  have h3 := List.all_eq_true.1 h1 j (by simpa using hj)
  exact masksOf_bit ops hC ops [] ⟨[], by simp, rfl⟩ (by intro i _ j h; simp at h) i h j h3
section
variable {P : Program} {ops : Array Oper} {Q : Exit → Act → World → Prop}
/-- The last ones, in order. -/
def tailWp (P : Program) (ops : Array Oper) (Q : Exit → Act → World → Prop) : Nat → Nat → Act → World → Prop
  | 0, _, a, w => Q .normal a w
  | n + 1, k, a, w => wpOp P ops Q k (tailWp P ops Q n (k + 1)) a w
theorem tail_end {k : Nat} {a : Act} {w : World} (h : Q .normal a w) : tailWp P ops Q 0 k a w := h
/-- What is listed waits for none that is not. -/
def Closed (ops : Array Oper) (listed : Array Bool) : Prop := ∀ i o, ops.toList[i]? = some o → listed.getD i false = true → ∀ e ∈ o.after, Region.binds .any e = true → listed.getD e.on false = true
theorem Closed.step {listed : Array Bool} (h : Closed ops listed) {i : Nat} (hi : i ∈ Region.ready .any ops listed) : Closed ops (listed.setIfInBounds i true) := by
  obtain ⟨h0, o, ho, hall⟩ := mem_ready.1 hi
  intro k o' hk hl e he hb
  have hup : listed.getD e.on false = true → (listed.setIfInBounds i true).getD e.on false = true := by
    intro h1
    by_cases hei : e.on = i
    · rw [hei]
      have : i < listed.size := by
        rcases Nat.lt_or_ge i listed.size with h2 | h2
        · exact h2
        · rw [hei] at h1; simp [Nat.not_lt.2 h2] at h1
      simp [this]
    · rw [getD_set_ne _ (Ne.symm hei)]; exact h1
  by_cases hki : k = i
  · subst hki
    have : o' = o := by have h2 : ops.toList[k]? = some o := by simpa using ho
                        rw [hk] at h2; exact Option.some.inj h2
    subst this
    exact hup (hall e he hb)
  · rw [getD_set_ne _ (Ne.symm hki)] at hl
    exact hup (h k o' hk hl e he hb)
theorem tail_sound (m : Nat) (hdown : edgesDown ops.toList ops.size = true) (hw : waitsAll ops.toList m = true) : ∀ (fuel k : Nat) (listed : Array Bool) (a : Act) (W : World), listed.size = ops.size → k + fuel = ops.size → m ≤ k →
    (∀ j, j < ops.size → (listed.getD j false = true ↔ j < k)) → tailWp P ops Q fuel k a W → wpAny P .any ops Q fuel listed a W := by
  have hcl : ∀ (listed : Array Bool) (k : Nat), listed.size = ops.size → (∀ j, j < ops.size → (listed.getD j false = true ↔ j < k)) → k < ops.size → k ∈ Region.ready .any ops listed := by
    intro listed k hs hl hk
    rw [mem_ready]
    refine ⟨?_, ops[k], by simp [hk], ?_⟩
    · have h1 : ¬ listed.getD k false = true := by rw [hl k hk]; omega
      have h2 : k < listed.size := by omega
      simp [h2] at h1 ⊢
      exact h1
    · intro e he hb
      have h1 := edgesDown_spec hdown k ops[k] hk (by simp [hk]) e he hb
      exact (hl e.on (by omega)).2 h1
  intro fuel
  induction fuel with
  | zero =>
    intro k listed a W hs hk hm hl ht
    refine ⟨?_, ht⟩
    refine List.eq_nil_iff_forall_not_mem.2 fun j hj => ?_
    obtain ⟨h0, o, ho, _⟩ := mem_ready.1 hj
    have hlt : j < ops.size := (Array.getElem?_eq_some_iff.1 ho).1
    have h1 := (hl j hlt).2 (by omega)
    have h2 : j < listed.size := by omega
    simp [h2] at h0 h1
    rw [h1] at h0
    cases h0
  | succ fuel ih =>
    intro k listed a W hs hk hm hl ht
    have hkr := hcl listed k hs hl (by omega)
    refine ⟨fun hr => (by rw [hr] at hkr; cases hkr), fun i hi => ?_⟩
    have hC : Closed ops listed := by
      intro i o ho hli e he hb
      have hio : i < ops.size := by have := (List.getElem?_eq_some_iff.1 ho).1; simpa using this
      have h1 := edgesDown_spec hdown i o hio (by simpa using ho) e he hb
      have h2 := (hl i hio).1 hli
      exact (hl e.on (by omega)).2 (by omega)
    have hik : i = k := by
      obtain ⟨h0, o, ho, hall⟩ := mem_ready.1 hi
      have hlt : i < ops.size := (Array.getElem?_eq_some_iff.1 ho).1
      have hge : ¬ i < k := by
        intro h
        have h1 := (hl i hlt).2 h
        have h2 : i < listed.size := by omega
        simp [h2] at h0 h1
        rw [h1] at h0
        cases h0
      have hC2 := Closed.step hC hi
      have hil : i < listed.size := by omega
      have hsi : (listed.setIfInBounds i true).getD i false = true := by simp [hil]
      have h3 := masks_wait (L := fun j => (listed.setIfInBounds i true).getD j false = true) hw hC2 (i := i) (by omega) (by simpa using hlt) hsi
      rcases Nat.lt_or_ge k i with h4 | h4
      · exfalso
        have h5 := h3 k h4
        rw [getD_set_ne _ (by omega)] at h5
        have := (hl k (by omega)).1 h5
        omega
      · omega
    subst hik
    refine wpOp_mono ?_ ht
    intro a' W' h
    refine ih (i + 1) _ _ _ (by simpa using hs) (by omega) (by omega) ?_ h
    intro j hj
    by_cases hji : j = i
    · subst hji
      have : j < listed.size := by omega
      simp [this]
    · rw [getD_set_ne _ (Ne.symm hji), hl j hj]
      omega
theorem inv_soundS (A : (Nat → Value) → Act) (J : Nat → Value → World → Prop) (B : Nat) (w : World) (m : Nat) (hmn : m < ops.size)
    (hdown : edgesDown ops.toList ops.size = true) (hw : waitsAll ops.toList m = true)
    (hJ : ∀ i v W W', J i v W → Below W.heap.size W W' → J i v W')
    (hstep : ∀ i o, i < m → ops[i]? = some o → ∀ x W, Below B w W → B ≤ W.heap.size → (∀ e ∈ o.after, Region.binds .any e = true → J e.on (x e.on) W) →
      wpOp P ops Q i (fun a' W' => ∃ v, a' = A (upd x i v) ∧ Below W.heap.size W W' ∧ J i v W') (A x) W)
    (hfin : ∀ x W, Below B w W → B ≤ W.heap.size → (∀ i, i < m → J i (x i) W) → tailWp P ops Q (ops.size - m) m (A x) W) :
    ∀ (fuel : Nat) (listed : Array Bool) (x : Nat → Value) (W : World), listed.size = ops.size → (listed.toList.count true) + fuel = ops.size → Closed ops listed → (∀ i, m ≤ i → listed.getD i false = false) →
      Below B w W → B ≤ W.heap.size → (∀ j, listed.getD j false = true → J j (x j) W) → wpAny P .any ops Q fuel listed (A x) W := by
  intro fuel
  induction fuel with
  | zero =>
    intro listed x W hs hc hC hl hB hBW hJs
    exfalso
    have hle := List.count_eq_length.1 (show listed.toList.count true = listed.toList.length by rw [Array.length_toList]; omega)
    have h2 : m < listed.size := by omega
    have h3 := hle listed[m] (by simp)
    have h4 := hl m (Nat.le_refl _)
    simp [h2] at h4
    rw [h4] at h3
    cases h3
  | succ fuel ih =>
    intro listed x W hs hc hC hl hB hBW hJs
    have hne : Region.ready .any ops listed ≠ [] := by
      intro hr
      have full : ∀ n, n ≤ ops.size → ∀ j, j < n → listed.getD j false = true := by
        intro n
        induction n with
        | zero => intro _ j hj; omega
        | succ n ih =>
          intro hn j hj
          have ih' := ih (by omega)
          by_cases hjn : j < n
          · exact ih' j hjn
          · obtain rfl : j = n := by omega
            by_cases hl : listed.getD j false = true
            · exact hl
            · exfalso
              have hlt : j < listed.size := by omega
              have hopj : j < ops.size := by omega
              have hmem : j ∈ Region.ready .any ops listed := by
                rw [mem_ready]
                refine ⟨?_, ops[j], by simp [hopj], ?_⟩
                · simp [hlt] at hl ⊢
                  exact hl
                · intro e he hb
                  exact ih' _ (edgesDown_spec hdown j ops[j] hopj (by simp [hopj]) e he hb)
              rw [hr] at hmem
              cases hmem
      have h1 := full ops.size (Nat.le_refl _) m hmn
      rw [hl m (Nat.le_refl _)] at h1
      cases h1
    refine ⟨fun hr => absurd hr hne, fun i hi => ?_⟩
    obtain ⟨h0, o, ho, hall⟩ := mem_ready.1 hi
    have hlt : i < ops.size := (Array.getElem?_eq_some_iff.1 ho).1
    have hil : i < listed.size := by omega
    have hfalse : listed[i] = false := by simpa [hil] using h0
    have hcnt : (listed.setIfInBounds i true).toList.count true = listed.toList.count true + 1 := by
      simp only [Array.toList_setIfInBounds]
      rw [List.count_set (by simpa using hil)]
      simp [hfalse]
    have hC2 := Closed.step hC hi
    by_cases him : m ≤ i
    · have h3 := masks_wait (L := fun j => (listed.setIfInBounds i true).getD j false = true) hw hC2 (i := i) him (by simpa using hlt) (by simp [hil])
      have hallJ : ∀ j, j < i → listed.getD j false = true := by
        intro j hj
        have h4 := h3 j hj
        rwa [getD_set_ne _ (by omega)] at h4
      have hie : i = m := by
        rcases Nat.lt_or_ge m i with h4 | h4
        · exfalso
          have h5 := hallJ m h4
          rw [hl m (Nat.le_refl _)] at h5
          cases h5
        · omega
      subst hie
      have hf := hfin x W hB hBW fun j hj => hJs j (hallJ j hj)
      have hiff : ∀ j, j < ops.size → (listed.getD j false = true ↔ j < i) := by
        intro j hj
        constructor
        · intro h4
          rcases Nat.lt_or_ge j i with h5 | h5
          · exact h5
          · rw [hl j h5] at h4; cases h4
        · exact hallJ j
      have hcm : listed.toList.count true = i := by
        have e : listed.toList = List.replicate i true ++ List.replicate (ops.size - i) false := by
          apply List.ext_getElem?
          intro q
          by_cases hq : q < ops.size
          · have hql : q < listed.size := by omega
            have h6 := hiff q hq
            rw [Array.getElem?_toList]
            by_cases hqi : q < i
            · have h7 := h6.2 hqi
              simp [hql] at h7
              rw [List.getElem?_append_left (by simpa using hqi)]
              simp [hqi, hql, h7]
            · have h7 : ¬ listed.getD q false = true := fun h => hqi (h6.1 h)
              simp [hql] at h7
              rw [List.getElem?_append_right (by simp; omega)]
              rw [List.getElem?_replicate, if_pos (by simp; omega)]
              simp [hql, h7]
          · rw [List.getElem?_eq_none (by simp; omega), List.getElem?_eq_none (by simp; omega)]
        rw [e, List.count_append]
        simp [List.count_replicate]
      have hfu : fuel + 1 = ops.size - i := by omega
      have ht := tail_sound (P := P) (Q := Q) i hdown hw (fuel + 1) i listed (A x) W hs (by omega) (Nat.le_refl _) hiff (by rw [hfu]; exact hf)
      exact ht.2 i hi
    · refine wpOp_mono ?_ (hstep i o (by omega) ho x W hB hBW fun e he hb => hJs _ (hall e he hb))
      rintro a' W' ⟨v, rfl, hbel, hv⟩
      refine ih _ _ _ (by simpa using hs) (by omega) hC2 ?_ (below_then hB hBW hbel) (Nat.le_trans hBW hbel.size) fun j hj => ?_
      · intro j hj
        rw [getD_set_ne _ (by omega)]; exact hl j hj
      · by_cases hji : j = i
        · subst hji
          rw [upd_same]
          exact hv
        · rw [upd_ne _ _ _ hji]
          rw [getD_set_ne false (Ne.symm hji)] at hj
          exact hJ _ _ _ _ (hJs j hj) hbel
/-- THE REGION, with last operations that may do anything. -/
theorem region_tabS {id : Nat} {w : World} {a0 : Act} (m : Nat) (dl : List (Nat × Tmp)) (T : Nat → Fact) (hmn : decide (m < ops.size) = true) (hdl : dlOf 0 ops.toList = dl) (hm : P.follows .mixedOrders = true) (hdown : edgesDown ops.toList ops.size = true) (hwait : waitsAll ops.toList m = true)
    (hap : apartB (dl.map Prod.snd) = true) (hin : (dl.map Prod.snd).all (fun d => decide (d < a0.tmps.size)) = true)
    (hs : stepsAll (Owes P ops Q dl a0 T w) 0 (ops.toList.take m))
    (hd : ∀ a x W, Frm ops dl a0 a x → Below w.heap.size w W → (∀ i, i < m → (T i).p (x i) W) → tailWp P ops Q (ops.size - m) m a W) :
    (Code.region id ops true).wp P Q a0 w := by
  subst hdl
  have hlt : ∀ i d, (i, d) ∈ dlOf 0 ops.toList → d < a0.tmps.size := by
    intro i d h
    have := List.all_eq_true.1 hin d (List.mem_map.2 ⟨(i, d), h, rfl⟩)
    simpa using this
  have hfrm : ∀ x, Frm ops (dlOf 0 ops.toList) a0 (putAll a0 (dlOf 0 ops.toList) x) x := fun x =>
    ⟨fun i d h => putAll_in x a0 hap (dlOf_mem.2 ⟨Nat.zero_le _, by simpa using h⟩) (hlt i d (dlOf_mem.2 ⟨Nat.zero_le _, by simpa using h⟩)),
     fun t ht => putAll_out x _ _ t (by simpa using ht), rfl, putAll_defers x _ _, putAll_size x _ _⟩
  let x0 : Nat → Value := fun i => match (ops.toList[i]?).bind (·.dst) with | some d => a0.tmps.getD d undef | none => undef
  have h0 : putAll a0 (dlOf 0 ops.toList) x0 = a0 := putAll_self x0 _ _ fun i d h => by
    have hl := hlt i d h
    have h2 := (dlOf_mem.1 h).2
    rw [Nat.sub_zero] at h2
    simp only [x0, h2]
    simp [hl]
  suffices hsuf : (Code.region id ops true).wp P Q (putAll a0 (dlOf 0 ops.toList) x0) w by rw [h0] at hsuf; exact hsuf
  refine wp_region_any hm ?_
  have hz : (Array.replicate ops.size false).toList.count true = 0 := by simp [List.count_replicate]
  have hrep : ∀ i, (Array.replicate ops.size false).getD i false = false := by
    intro i
    by_cases h : i < ops.size <;> simp [h]
  refine inv_soundS (putAll a0 (dlOf 0 ops.toList)) (fun i => (T i).p) w.heap.size w m (by simpa using hmn) hdown hwait (fun i v W W' => (T i).st v W W') ?_ (fun x W hB _ hx => hd _ x W (hfrm x) hB hx) ops.size _ x0 _ (by simp) (by rw [hz]; omega) ?_ (fun i _ => hrep i) (below_dr (Below.refl _ _) 1) (Nat.le_refl _) ?_
  · intro i o hi ho x W hB _ hE
    have h1 := stepsAll_spec hs i o (by rw [List.getElem?_take]; simp [hi, ho])
    rw [Nat.zero_add] at h1
    refine h1 _ x W (hfrm x) hB hE _ fun v W' hb hp => ⟨v, ?_, hb, hp⟩
    cases hod : o.dst with
    | none =>
      rw [putAll_upd_out]
      · rfl
      · intro d hd'
        have h2 := (dlOf_mem.1 hd').2
        rw [Nat.sub_zero, show ops.toList[i]? = some o by simpa using ho] at h2
        simp [hod] at h2
    | some d =>
      exact putAll_put x v a0 hap (dlOf_mem.2 ⟨Nat.zero_le _, by rw [Nat.sub_zero, show ops.toList[i]? = some o by simpa using ho]; simpa using hod⟩)
  · intro i o _ h
    rw [hrep i] at h
    cases h
  · intro j hj
    rw [hrep j] at hj
    cases hj
theorem wpOp_fin {i : Nat} {o : Oper} {a : Act} {W W' : World} {K : Act → World → Prop} (ho : ops[i]? = some o) (hw : Region.wanted o (yielded ops a.tmps) = true) (hd : o.dst = none) (hrun : (execOp a.eval o).run P W = .ok .skip W')
    (h : K a W') : wpOp P ops Q i K a W := wpOp_run ho hw (by unfold Oper.wp; rw [hrun]; show K (a.put o.dst undef) W'; rw [hd]; exact h)
theorem wpOp_mid {i : Nat} {o : Oper} {a : Act} {W : World} {v : Value} {K : Act → World → Prop} (ho : ops[i]? = some o) (hw : Region.wanted o (yielded ops a.tmps) = true) (hrun : (execOp a.eval o).run P W = .ok (.value v) W)
    (h : K (a.put o.dst v) W) : wpOp P ops Q i K a W := wpOp_run ho hw (by unfold Oper.wp; rw [hrun]; exact h)
theorem mid_other (a b : Act) (d t : Nat) (v : Value) (h : b = a.put (some d) v) (hne : t ≠ d) : b.tmps[t]?.getD undef = a.tmps[t]?.getD undef := by
  rw [h]
  simp [Act.put, Ne.symm hne]
theorem mid_same (a b : Act) (d : Nat) (v : Value) (h : b = a.put (some d) v) (hs : d < a.tmps.size) : b.tmps[d]?.getD undef = v := by
  rw [h]
  simp [Act.put, hs]
theorem mid_size (a : Act) (d : Nat) (v : Value) : (a.put (some d) v).tmps.size = a.tmps.size := by simp [Act.put]
end
end Go.Proofs.Ytopikpjagjnbhaa

/- As XRegionS, with a word on the world that speaks of several results at once. -/
namespace Go.Proofs.Ytopikpjagjnbhaa
open Go.RowKit
/-- The results of those that are listed. -/
def ysOf (listed : Array Bool) (x : Nat → Value) : Nat → Option Value := fun j => if listed.getD j false = true then some (x j) else none
theorem ysOf_some {listed : Array Bool} {x : Nat → Value} {j : Nat} (h : listed.getD j false = true) : ysOf listed x j = some (x j) := if_pos h
theorem ysOf_none {listed : Array Bool} {x : Nat → Value} {j : Nat} (h : listed.getD j false = false) : ysOf listed x j = none := if_neg (by rw [h]; simp)
theorem ysOf_step {listed : Array Bool} {x : Nat → Value} {i : Nat} {v : Value} (hi : i < listed.size) : ysOf (listed.setIfInBounds i true) (upd x i v) = updY (ysOf listed x) i v := by
  funext j
  by_cases hji : j = i
  · subst hji
    rw [updY_same, ysOf_some (by simp [hi]), upd_same]
  · rw [updY_ne _ _ _ (Ne.symm hji)]
    unfold ysOf
    rw [getD_set_ne _ (Ne.symm hji), upd_ne _ _ _ hji]
section
variable {P : Program} {ops : Array Oper} {Q : Exit → Act → World → Prop}
/-- What one operation owes. -/
def OwesT (P : Program) (ops : Array Oper) (Q : Exit → Act → World → Prop) (dl : List (Nat × Tmp)) (a0 : Act) (T : Nat → Fact) (G : (Nat → Option Value) → World → Prop) (w : World) (i : Nat) (o : Oper) : Prop :=
  ∀ (a : Act) (x : Nat → Value) (W : World) (y : Nat → Option Value), Frm ops dl a0 a x → Below w.heap.size w W → y i = none → G y W → (∀ e ∈ o.after, Region.binds .any e = true → y e.on = some (x e.on) ∧ (T e.on).p (x e.on) W) →
    ∀ K : Act → World → Prop, (∀ v W', Below W.heap.size W W' → (T i).p v W' → G (updY y i v) W' → K (a.put o.dst v) W') → wpOp P ops Q i K a W
theorem inv_soundT (A : (Nat → Value) → Act) (J : Nat → Value → World → Prop) (G : (Nat → Option Value) → World → Prop) (B : Nat) (w : World) (m : Nat) (hmn : m < ops.size)
    (hdown : edgesDown ops.toList ops.size = true) (hw : waitsAll ops.toList m = true)
    (hJ : ∀ i v W W', J i v W → Below W.heap.size W W' → J i v W')
    (hstep : ∀ i o, i < m → ops[i]? = some o → ∀ x y W, Below B w W → B ≤ W.heap.size → y i = none → G y W → (∀ e ∈ o.after, Region.binds .any e = true → y e.on = some (x e.on) ∧ J e.on (x e.on) W) →
      wpOp P ops Q i (fun a' W' => ∃ v, a' = A (upd x i v) ∧ Below W.heap.size W W' ∧ J i v W' ∧ G (updY y i v) W') (A x) W)
    (hfin : ∀ x y W, Below B w W → B ≤ W.heap.size → G y W → (∀ i, i < m → y i = some (x i) ∧ J i (x i) W) → tailWp P ops Q (ops.size - m) m (A x) W) :
    ∀ (fuel : Nat) (listed : Array Bool) (x : Nat → Value) (W : World), listed.size = ops.size → (listed.toList.count true) + fuel = ops.size → Closed ops listed → (∀ i, m ≤ i → listed.getD i false = false) → G (ysOf listed x) W →
      Below B w W → B ≤ W.heap.size → (∀ j, listed.getD j false = true → J j (x j) W) → wpAny P .any ops Q fuel listed (A x) W := by
  intro fuel
  induction fuel with
  | zero =>
    intro listed x W hs hc hC hl hG hB hBW hJs
    exfalso
    have hle := List.count_eq_length.1 (show listed.toList.count true = listed.toList.length by rw [Array.length_toList]; omega)
    have h2 : m < listed.size := by omega
    have h3 := hle listed[m] (by simp)
    have h4 := hl m (Nat.le_refl _)
    simp [h2] at h4
    rw [h4] at h3
    cases h3
  | succ fuel ih =>
    intro listed x W hs hc hC hl hG hB hBW hJs
    have hne : Region.ready .any ops listed ≠ [] := by
      intro hr
      have full : ∀ n, n ≤ ops.size → ∀ j, j < n → listed.getD j false = true := by
        intro n
        induction n with
        | zero => intro _ j hj; omega
        | succ n ih =>
          intro hn j hj
          have ih' := ih (by omega)
          by_cases hjn : j < n
          · exact ih' j hjn
          · obtain rfl : j = n := by omega
            by_cases hl : listed.getD j false = true
            · exact hl
            · exfalso
              have hlt : j < listed.size := by omega
              have hopj : j < ops.size := by omega
              have hmem : j ∈ Region.ready .any ops listed := by
                rw [mem_ready]
                refine ⟨?_, ops[j], by simp [hopj], ?_⟩
                · simp [hlt] at hl ⊢
                  exact hl
                · intro e he hb
                  exact ih' _ (edgesDown_spec hdown j ops[j] hopj (by simp [hopj]) e he hb)
              rw [hr] at hmem
              cases hmem
      have h1 := full ops.size (Nat.le_refl _) m hmn
      rw [hl m (Nat.le_refl _)] at h1
      cases h1
    refine ⟨fun hr => absurd hr hne, fun i hi => ?_⟩
    obtain ⟨h0, o, ho, hall⟩ := mem_ready.1 hi
    have hlt : i < ops.size := (Array.getElem?_eq_some_iff.1 ho).1
    have hil : i < listed.size := by omega
    have hfalse : listed[i] = false := by simpa [hil] using h0
    have hcnt : (listed.setIfInBounds i true).toList.count true = listed.toList.count true + 1 := by
      simp only [Array.toList_setIfInBounds]
      rw [List.count_set (by simpa using hil)]
      simp [hfalse]
    have hC2 := Closed.step hC hi
    by_cases him : m ≤ i
    · have h3 := masks_wait (L := fun j => (listed.setIfInBounds i true).getD j false = true) hw hC2 (i := i) him (by simpa using hlt) (by simp [hil])
      have hallJ : ∀ j, j < i → listed.getD j false = true := by
        intro j hj
        have h4 := h3 j hj
        rwa [getD_set_ne _ (by omega)] at h4
      have hie : i = m := by
        rcases Nat.lt_or_ge m i with h4 | h4
        · exfalso
          have h5 := hallJ m h4
          rw [hl m (Nat.le_refl _)] at h5
          cases h5
        · omega
      subst hie
      have hf := hfin x _ W hB hBW hG fun j hj => ⟨ysOf_some (hallJ j hj), hJs j (hallJ j hj)⟩
      have hiff : ∀ j, j < ops.size → (listed.getD j false = true ↔ j < i) := by
        intro j hj
        constructor
        · intro h4
          rcases Nat.lt_or_ge j i with h5 | h5
          · exact h5
          · rw [hl j h5] at h4; cases h4
        · exact hallJ j
      have hcm : listed.toList.count true = i := by
        have e : listed.toList = List.replicate i true ++ List.replicate (ops.size - i) false := by
          apply List.ext_getElem?
          intro q
          by_cases hq : q < ops.size
          · have hql : q < listed.size := by omega
            have h6 := hiff q hq
            rw [Array.getElem?_toList]
            by_cases hqi : q < i
            · have h7 := h6.2 hqi
              simp [hql] at h7
              rw [List.getElem?_append_left (by simpa using hqi)]
              simp [hqi, hql, h7]
            · have h7 : ¬ listed.getD q false = true := fun h => hqi (h6.1 h)
              simp [hql] at h7
              rw [List.getElem?_append_right (by simp; omega)]
              rw [List.getElem?_replicate, if_pos (by simp; omega)]
              simp [hql, h7]
          · rw [List.getElem?_eq_none (by simp; omega), List.getElem?_eq_none (by simp; omega)]
        rw [e, List.count_append]
        simp [List.count_replicate]
      have hfu : fuel + 1 = ops.size - i := by omega
      have ht := tail_sound (P := P) (Q := Q) i hdown hw (fuel + 1) i listed (A x) W hs (by omega) (Nat.le_refl _) hiff (by rw [hfu]; exact hf)
      exact ht.2 i hi
    · refine wpOp_mono ?_ (hstep i o (by omega) ho x (ysOf listed x) W hB hBW (ysOf_none (by simp [hil, hfalse])) hG fun e he hb => ⟨ysOf_some (hall e he hb), hJs _ (hall e he hb)⟩)
      rintro a' W' ⟨v, rfl, hbel, hv, hG'⟩
      refine ih _ _ _ (by simpa using hs) (by omega) hC2 ?_ (by rw [ysOf_step hil]; exact hG') (below_then hB hBW hbel) (Nat.le_trans hBW hbel.size) fun j hj => ?_
      · intro j hj
        rw [getD_set_ne _ (by omega)]; exact hl j hj
      · by_cases hji : j = i
        · subst hji
          rw [upd_same]
          exact hv
        · rw [upd_ne _ _ _ hji]
          rw [getD_set_ne false (Ne.symm hji)] at hj
          exact hJ _ _ _ _ (hJs j hj) hbel
/-- THE REGION, with last operations that may do anything, and a word on the world that speaks of some results. -/
theorem region_tabT {id : Nat} {w : World} {a0 : Act} (m : Nat) (dl : List (Nat × Tmp)) (T : Nat → Fact) (G : (Nat → Option Value) → World → Prop) (hmn : decide (m < ops.size) = true) (hdl : dlOf 0 ops.toList = dl) (hm : P.follows .mixedOrders = true) (hdown : edgesDown ops.toList ops.size = true) (hwait : waitsAll ops.toList m = true)
    (hap : apartB (dl.map Prod.snd) = true) (hin : (dl.map Prod.snd).all (fun d => decide (d < a0.tmps.size)) = true)
    (hG0 : G (fun _ => none) (w.drewN 1))
    (hs : stepsAll (OwesT P ops Q dl a0 T G w) 0 (ops.toList.take m))
    (hd : ∀ a x W y, Frm ops dl a0 a x → Below w.heap.size w W → G y W → (∀ i, i < m → y i = some (x i) ∧ (T i).p (x i) W) → tailWp P ops Q (ops.size - m) m a W) :
    (Code.region id ops true).wp P Q a0 w := by
  subst hdl
  have hlt : ∀ i d, (i, d) ∈ dlOf 0 ops.toList → d < a0.tmps.size := by
    intro i d h
    have := List.all_eq_true.1 hin d (List.mem_map.2 ⟨(i, d), h, rfl⟩)
    simpa using this
  have hfrm : ∀ x, Frm ops (dlOf 0 ops.toList) a0 (putAll a0 (dlOf 0 ops.toList) x) x := fun x =>
    ⟨fun i d h => putAll_in x a0 hap (dlOf_mem.2 ⟨Nat.zero_le _, by simpa using h⟩) (hlt i d (dlOf_mem.2 ⟨Nat.zero_le _, by simpa using h⟩)),
     fun t ht => putAll_out x _ _ t (by simpa using ht), rfl, putAll_defers x _ _, putAll_size x _ _⟩
  let x0 : Nat → Value := fun i => match (ops.toList[i]?).bind (·.dst) with | some d => a0.tmps.getD d undef | none => undef
  have h0 : putAll a0 (dlOf 0 ops.toList) x0 = a0 := putAll_self x0 _ _ fun i d h => by
    have hl := hlt i d h
    have h2 := (dlOf_mem.1 h).2
    rw [Nat.sub_zero] at h2
    simp only [x0, h2]
    simp [hl]
  suffices hsuf : (Code.region id ops true).wp P Q (putAll a0 (dlOf 0 ops.toList) x0) w by rw [h0] at hsuf; exact hsuf
  refine wp_region_any hm ?_
  have hz : (Array.replicate ops.size false).toList.count true = 0 := by simp [List.count_replicate]
  have hrep : ∀ i, (Array.replicate ops.size false).getD i false = false := by
    intro i
    by_cases h : i < ops.size <;> simp [h]
  refine inv_soundT (putAll a0 (dlOf 0 ops.toList)) (fun i => (T i).p) G w.heap.size w m (by simpa using hmn) hdown hwait (fun i v W W' => (T i).st v W W') ?_ (fun x y W hB _ hG hx => hd _ x W y (hfrm x) hB hG hx) ops.size _ x0 _ (by simp) (by rw [hz]; omega) ?_ (fun i _ => hrep i) (by rw [show ysOf (Array.replicate ops.size false) x0 = (fun _ => none) from funext fun j => ysOf_none (hrep j)]; exact hG0) (below_dr (Below.refl _ _) 1) (Nat.le_refl _) ?_
  · intro i o hi ho x y W hB _ hy hG hE
    have h1 := stepsAll_spec hs i o (by rw [List.getElem?_take]; simp [hi, ho])
    rw [Nat.zero_add] at h1
    refine h1 _ x W y (hfrm x) hB hy hG hE _ fun v W' hb hp hG' => ⟨v, ?_, hb, hp, hG'⟩
    cases hod : o.dst with
    | none =>
      rw [putAll_upd_out]
      · rfl
      · intro d hd'
        have h2 := (dlOf_mem.1 hd').2
        rw [Nat.sub_zero, show ops.toList[i]? = some o by simpa using ho] at h2
        simp [hod] at h2
    | some d =>
      exact putAll_put x v a0 hap (dlOf_mem.2 ⟨Nat.zero_le _, by rw [Nat.sub_zero, show ops.toList[i]? = some o by simpa using ho]; simpa using hod⟩)
  · intro i o _ h
    rw [hrep i] at h
    cases h
  · intro j hj
    rw [hrep j] at hj
    cases hj
end
end Go.Proofs.Ytopikpjagjnbhaa

/- As XRegionJ, where the last operations wait for all others. -/
namespace Go.Proofs.Ytopikpjagjnbhaa
open Go.RowKit
section
variable {P : Program} {ops : Array Oper} {Q : Exit → Act → World → Prop} {S : World → World → Prop}
/-- What one operation owes. -/
def OwesU (P : Program) (ops : Array Oper) (Q : Exit → Act → World → Prop) (dl : List (Nat × Tmp)) (a0 : Act) (T : Nat → FactS S) (G : (Nat → Option Value) → World → Prop) (i : Nat) (o : Oper) : Prop :=
  ∀ (a : Act) (x : Nat → Value) (W : World) (y : Nat → Option Value), Frm ops dl a0 a x → y i = none → G y W → (∀ e ∈ o.after, Region.binds .any e = true → y e.on = some (x e.on) ∧ (T e.on).p (x e.on) W) →
    ∀ K : Act → World → Prop, (∀ v W', S W W' → (T i).p v W' → G (updY y i v) W' → K (a.put o.dst v) W') → wpOp P ops Q i K a W
theorem inv_soundU (A : (Nat → Value) → Act) (J : Nat → Value → World → Prop) (G : (Nat → Option Value) → World → Prop) (m : Nat) (hmn : m < ops.size)
    (hdown : edgesDown ops.toList ops.size = true) (hw : waitsAll ops.toList m = true)
    (hJ : ∀ i v W W', J i v W → S W W' → J i v W')
    (hstep : ∀ i o, i < m → ops[i]? = some o → ∀ x y W, y i = none → G y W → (∀ e ∈ o.after, Region.binds .any e = true → y e.on = some (x e.on) ∧ J e.on (x e.on) W) →
      wpOp P ops Q i (fun a' W' => ∃ v, a' = A (upd x i v) ∧ S W W' ∧ J i v W' ∧ G (updY y i v) W') (A x) W)
    (hfin : ∀ x y W, G y W → (∀ i, i < m → y i = some (x i) ∧ J i (x i) W) → tailWp P ops Q (ops.size - m) m (A x) W) :
    ∀ (fuel : Nat) (listed : Array Bool) (x : Nat → Value) (W : World), listed.size = ops.size → (listed.toList.count true) + fuel = ops.size → Closed ops listed → (∀ i, m ≤ i → listed.getD i false = false) → G (ysOf listed x) W →
      (∀ j, listed.getD j false = true → J j (x j) W) → wpAny P .any ops Q fuel listed (A x) W := by
  intro fuel
  induction fuel with
  | zero =>
    intro listed x W hs hc hC hl hG hJs
    exfalso
    have hle := List.count_eq_length.1 (show listed.toList.count true = listed.toList.length by rw [Array.length_toList]; omega)
    have h2 : m < listed.size := by omega
    have h3 := hle listed[m] (by simp)
    have h4 := hl m (Nat.le_refl _)
    simp [h2] at h4
    rw [h4] at h3
    cases h3
  | succ fuel ih =>
    intro listed x W hs hc hC hl hG hJs
    have hne : Region.ready .any ops listed ≠ [] := by
      intro hr
      have full : ∀ n, n ≤ ops.size → ∀ j, j < n → listed.getD j false = true := by
        intro n
        induction n with
        | zero => intro _ j hj; omega
        | succ n ih =>
          intro hn j hj
          have ih' := ih (by omega)
          by_cases hjn : j < n
          · exact ih' j hjn
          · obtain rfl : j = n := by omega
            by_cases hl : listed.getD j false = true
            · exact hl
            · exfalso
              have hlt : j < listed.size := by omega
              have hopj : j < ops.size := by omega
              have hmem : j ∈ Region.ready .any ops listed := by
                rw [mem_ready]
                refine ⟨?_, ops[j], by simp [hopj], ?_⟩
                · simp [hlt] at hl ⊢
                  exact hl
                · intro e he hb
                  exact ih' _ (edgesDown_spec hdown j ops[j] hopj (by simp [hopj]) e he hb)
              rw [hr] at hmem
              cases hmem
      have h1 := full ops.size (Nat.le_refl _) m hmn
      rw [hl m (Nat.le_refl _)] at h1
      cases h1
    refine ⟨fun hr => absurd hr hne, fun i hi => ?_⟩
    obtain ⟨h0, o, ho, hall⟩ := mem_ready.1 hi
    have hlt : i < ops.size := (Array.getElem?_eq_some_iff.1 ho).1
    have hil : i < listed.size := by omega
    have hfalse : listed[i] = false := by simpa [hil] using h0
    have hcnt : (listed.setIfInBounds i true).toList.count true = listed.toList.count true + 1 := by
      simp only [Array.toList_setIfInBounds]
      rw [List.count_set (by simpa using hil)]
      simp [hfalse]
    have hC2 := Closed.step hC hi
    by_cases him : m ≤ i
    · have h3 := masks_wait (L := fun j => (listed.setIfInBounds i true).getD j false = true) hw hC2 (i := i) him (by simpa using hlt) (by simp [hil])
      have hallJ : ∀ j, j < i → listed.getD j false = true := by
        intro j hj
        have h4 := h3 j hj
        rwa [getD_set_ne _ (by omega)] at h4
      have hie : i = m := by
        rcases Nat.lt_or_ge m i with h4 | h4
        · exfalso
          have h5 := hallJ m h4
          rw [hl m (Nat.le_refl _)] at h5
          cases h5
        · omega
      subst hie
      have hf := hfin x _ W hG fun j hj => ⟨ysOf_some (hallJ j hj), hJs j (hallJ j hj)⟩
      have hiff : ∀ j, j < ops.size → (listed.getD j false = true ↔ j < i) := by
        intro j hj
        constructor
        · intro h4
          rcases Nat.lt_or_ge j i with h5 | h5
          · exact h5
          · rw [hl j h5] at h4; cases h4
        · exact hallJ j
      have hcm : listed.toList.count true = i := by
        have e : listed.toList = List.replicate i true ++ List.replicate (ops.size - i) false := by
          apply List.ext_getElem?
          intro q
          by_cases hq : q < ops.size
          · have hql : q < listed.size := by omega
            have h6 := hiff q hq
            rw [Array.getElem?_toList]
            by_cases hqi : q < i
            · have h7 := h6.2 hqi
              simp [hql] at h7
              rw [List.getElem?_append_left (by simpa using hqi)]
              simp [hqi, hql, h7]
            · have h7 : ¬ listed.getD q false = true := fun h => hqi (h6.1 h)
              simp [hql] at h7
              rw [List.getElem?_append_right (by simp; omega)]
              rw [List.getElem?_replicate, if_pos (by simp; omega)]
              simp [hql, h7]
          · rw [List.getElem?_eq_none (by simp; omega), List.getElem?_eq_none (by simp; omega)]
        rw [e, List.count_append]
        simp [List.count_replicate]
      have hfu : fuel + 1 = ops.size - i := by omega
      have ht := tail_sound (P := P) (Q := Q) i hdown hw (fuel + 1) i listed (A x) W hs (by omega) (Nat.le_refl _) hiff (by rw [hfu]; exact hf)
      exact ht.2 i hi
    · refine wpOp_mono ?_ (hstep i o (by omega) ho x (ysOf listed x) W (ysOf_none (by simp [hil, hfalse])) hG fun e he hb => ⟨ysOf_some (hall e he hb), hJs _ (hall e he hb)⟩)
      rintro a' W' ⟨v, rfl, hbel, hv, hG'⟩
      refine ih _ _ _ (by simpa using hs) (by omega) hC2 ?_ (by rw [ysOf_step hil]; exact hG') fun j hj => ?_
      · intro j hj
        rw [getD_set_ne _ (by omega)]; exact hl j hj
      · by_cases hji : j = i
        · subst hji
          rw [upd_same]
          exact hv
        · rw [upd_ne _ _ _ hji]
          rw [getD_set_ne false (Ne.symm hji)] at hj
          exact hJ _ _ _ _ (hJs j hj) hbel
/-- THE REGION, with last operations that may do anything, and a word on the world that speaks of some results. -/
theorem region_tabU {id : Nat} {w : World} {a0 : Act} (m : Nat) (dl : List (Nat × Tmp)) (T : Nat → FactS S) (G : (Nat → Option Value) → World → Prop) (hmn : decide (m < ops.size) = true) (hdl : dlOf 0 ops.toList = dl) (hm : P.follows .mixedOrders = true) (hdown : edgesDown ops.toList ops.size = true) (hwait : waitsAll ops.toList m = true)
    (hap : apartB (dl.map Prod.snd) = true) (hin : (dl.map Prod.snd).all (fun d => decide (d < a0.tmps.size)) = true)
    (hG0 : G (fun _ => none) (w.drewN 1))
    (hs : stepsAll (OwesU P ops Q dl a0 T G) 0 (ops.toList.take m))
    (hd : ∀ a x W y, Frm ops dl a0 a x → G y W → (∀ i, i < m → y i = some (x i) ∧ (T i).p (x i) W) → tailWp P ops Q (ops.size - m) m a W) :
    (Code.region id ops true).wp P Q a0 w := by
  subst hdl
  have hlt : ∀ i d, (i, d) ∈ dlOf 0 ops.toList → d < a0.tmps.size := by
    intro i d h
    have := List.all_eq_true.1 hin d (List.mem_map.2 ⟨(i, d), h, rfl⟩)
    simpa using this
  have hfrm : ∀ x, Frm ops (dlOf 0 ops.toList) a0 (putAll a0 (dlOf 0 ops.toList) x) x := fun x =>
    ⟨fun i d h => putAll_in x a0 hap (dlOf_mem.2 ⟨Nat.zero_le _, by simpa using h⟩) (hlt i d (dlOf_mem.2 ⟨Nat.zero_le _, by simpa using h⟩)),
     fun t ht => putAll_out x _ _ t (by simpa using ht), rfl, putAll_defers x _ _, putAll_size x _ _⟩
  let x0 : Nat → Value := fun i => match (ops.toList[i]?).bind (·.dst) with | some d => a0.tmps.getD d undef | none => undef
  have h0 : putAll a0 (dlOf 0 ops.toList) x0 = a0 := putAll_self x0 _ _ fun i d h => by
    have hl := hlt i d h
    have h2 := (dlOf_mem.1 h).2
    rw [Nat.sub_zero] at h2
    simp only [x0, h2]
    simp [hl]
  suffices hsuf : (Code.region id ops true).wp P Q (putAll a0 (dlOf 0 ops.toList) x0) w by rw [h0] at hsuf; exact hsuf
  refine wp_region_any hm ?_
  have hz : (Array.replicate ops.size false).toList.count true = 0 := by simp [List.count_replicate]
  have hrep : ∀ i, (Array.replicate ops.size false).getD i false = false := by
    intro i
    by_cases h : i < ops.size <;> simp [h]
  refine inv_soundU (putAll a0 (dlOf 0 ops.toList)) (fun i => (T i).p) G m (by simpa using hmn) hdown hwait (fun i v W W' => (T i).st v W W') ?_ (fun x y W hG hx => hd _ x W y (hfrm x) hG hx) ops.size _ x0 _ (by simp) (by rw [hz]; omega) ?_ (fun i _ => hrep i) (by rw [show ysOf (Array.replicate ops.size false) x0 = (fun _ => none) from funext fun j => ysOf_none (hrep j)]; exact hG0) ?_
  · intro i o hi ho x y W hy hG hE
    have h1 := stepsAll_spec hs i o (by rw [List.getElem?_take]; simp [hi, ho])
    rw [Nat.zero_add] at h1
    refine h1 _ x W y (hfrm x) hy hG hE _ fun v W' hb hp hG' => ⟨v, ?_, hb, hp, hG'⟩
    cases hod : o.dst with
    | none =>
      rw [putAll_upd_out]
      · rfl
      · intro d hd'
        have h2 := (dlOf_mem.1 hd').2
        rw [Nat.sub_zero, show ops.toList[i]? = some o by simpa using ho] at h2
        simp [hod] at h2
    | some d =>
      exact putAll_put x v a0 hap (dlOf_mem.2 ⟨Nat.zero_le _, by rw [Nat.sub_zero, show ops.toList[i]? = some o by simpa using ho]; simpa using hod⟩)
  · intro i o _ h
    rw [hrep i] at h
    cases h
  · intro j hj
    rw [hrep j] at hj
    cases hj
end
end Go.Proofs.Ytopikpjagjnbhaa

/- append(append([]T{}, x...), y): a word for a region that draws its order. -/
namespace Go.Proofs.Ytopikpjagjnbhaa
open Go.RowKit
/-- x: the empty row; a: with the first ones; l: the literal behind; d: with all. -/
structure Ch2 (T : TypeId) (sz B n m : Nat) (cs one : List Value) (x a l d : Option Value) (W : World) : Prop where
  hB : B ≤ W.heap.size
  hx : ∀ u, x = some u → a = none → W.ownsRow B T sz u 0 []
  ha : ∀ u, a = some u → d = none → W.ownsRow B T sz u n cs
  hl : ∀ u, l = some u → d = none → ∃ g, u = .slice (some ⟨g, 0, none⟩) 1 1 ∧ g < W.heap.size ∧ Rds W sz (some ⟨g, 0, none⟩) 1 1 one ∧ (∀ v, x = some v → a = none → v.ownBlock ≠ some g) ∧ (∀ v, a = some v → v.ownBlock ≠ some g)
  hd : ∀ u, d = some u → W.ownsRow B T sz u (n + m) (cs ++ one)
theorem Ch2.none_ {T : TypeId} {sz B n m : Nat} {cs one : List Value} {W : World} (h : B ≤ W.heap.size) : Ch2 T sz B n m cs one none none none none W :=
  ⟨h, (fun u e => by cases e), (fun u e => by cases e), (fun u e => by cases e), (fun u e => by cases e)⟩
theorem Ch2.below {T : TypeId} {sz B n m : Nat} {cs one : List Value} {x a l d : Option Value} {W W' : World} (h : Ch2 T sz B n m cs one x a l d W) (hb : Below W.heap.size W W') : Ch2 T sz B n m cs one x a l d W' :=
  ⟨Nat.le_trans h.hB hb.size, fun u e1 e2 => own_below (h.hx u e1 e2) hb, fun u e1 e2 => own_below (h.ha u e1 e2) hb,
    fun u e1 e2 => by obtain ⟨g, h1, h2, h3, h4, h5⟩ := h.hl u e1 e2; exact ⟨g, h1, Nat.lt_of_lt_of_le h2 hb.size, h3.below hb, h4, h5⟩, fun u e1 => own_below (h.hd u e1) hb⟩
theorem Ch2.x_ {T : TypeId} {sz B n m : Nat} {cs one : List Value} {l : Option Value} {W : World} (h : Ch2 T sz B n m cs one none none l none W) : Ch2 T sz B n m cs one (some (.slice (some ⟨W.heap.size, 0, none⟩) 0 0)) none l none (W.alloc (.cells #[] T)) := by
  have h' := h.below (below_al (Below.refl _ _) (.cells #[] T))
  refine ⟨h'.hB, fun u e _ => ?_, h'.ha, fun u e1 e2 => ?_, h'.hd⟩
  · cases e
    exact World.ownsRow_made W #[] 0 h.hB (Nat.zero_le _) (by simp)
  · obtain ⟨g, h1, h2, h3, h4, h5⟩ := h.hl u e1 e2
    obtain ⟨g', k1, k2, k3, _, _⟩ := h'.hl u e1 e2
    rw [h1] at k1
    cases k1
    refine ⟨g, h1, k2, k3, fun v e _ => ?_, fun v e => by cases e⟩
    cases e
    intro e2
    have : W.heap.size = g := by simpa [Value.ownBlock] using e2
    omega
theorem Ch2.l_ {T : TypeId} {sz B n m : Nat} {cs one : List Value} {x a : Option Value} {W : World} (h : Ch2 T sz B n m cs one x a none none W) (ho : one.length = 1 * sz) : Ch2 T sz B n m cs one x a (some (.slice (some ⟨W.heap.size, 0, none⟩) 1 1)) none (W.alloc (.cells one.toArray T)) := by
  have h' := h.below (below_al (Below.refl _ _) (.cells one.toArray T))
  refine ⟨h'.hB, h'.hx, h'.ha, fun u e1 e2 => ?_, h'.hd⟩
  cases e1
  refine ⟨W.heap.size, rfl, by simp, rds_lit W T sz 1 one ho (by decide), fun v e e3 e4 => ?_, fun v e e4 => ?_⟩
  · have := ((h.hx v e e3).lt _ e4).2
    omega
  · have := ((h.ha v e rfl).lt _ e4).2
    omega
theorem Ch2.a_ {T : TypeId} {sz B n m : Nat} {cs one : List Value} {u v1 : Value} {l : Option Value} {W w1 : World} (h : Ch2 T sz B n m cs one (some u) none l none W) (p1 : w1.ownsRow B T sz v1 n cs) (p3 : W.grownBy w1 u.ownBlock)
    (p4 : v1.ownBlock = u.ownBlock ∨ ∃ k, v1.ownBlock = some k ∧ W.heap.size ≤ k) : Ch2 T sz B n m cs one (some u) (some v1) l none w1 := by
  have hc : Chg (fun k => u.ownBlock = some k) W w1 := Chg.of_grown p3 (fun k e => e)
  refine ⟨Nat.le_trans h.hB hc.size, (fun v e e2 => by cases e2), fun v e _ => by cases e; exact p1, fun v e1 e2 => ?_, fun v e => by cases e⟩
  obtain ⟨g, h1, h2, h3, h4, h5⟩ := h.hl v e1 e2
  have h6 := h4 u rfl rfl
  refine ⟨g, h1, Nat.lt_of_lt_of_le h2 hc.size, hc.rds h3 (fun ad e => by cases e; exact h6), (fun v e e2 => by cases e2), fun v e => ?_⟩
  cases e
  rcases p4 with p4 | ⟨k, p4, p5⟩
  · rw [p4]; exact h6
  · rw [p4]; intro e; cases e; omega
theorem Ch2.d_ {T : TypeId} {sz B n m : Nat} {cs one : List Value} {u v1 : Value} {x l : Option Value} {W w1 : World} (h : Ch2 T sz B n m cs one x (some u) l none W) (hs : W.heap.size ≤ w1.heap.size) (p1 : w1.ownsRow B T sz v1 (n + m) (cs ++ one)) : Ch2 T sz B n m cs one x (some u) l (some v1) w1 :=
  ⟨Nat.le_trans h.hB hs, (fun v _ e2 => by cases e2), (fun v _ e2 => by cases e2), (fun v _ e2 => by cases e2), fun v e => by cases e; exact p1⟩
/-- Where another block is written. -/
theorem Ch2.keep {T : TypeId} {sz B n m : Nat} {cs one : List Value} {x a l : Option Value} {d : Value} {S : Nat → Prop} {W W' : World} (h : Ch2 T sz B n m cs one x a l (some d) W) (hc : Chg S W W') (hs : ∀ k, S k → k < B) : Ch2 T sz B n m cs one x a l (some d) W' :=
  ⟨Nat.le_trans h.hB hc.size, (fun u e1 e2 => by
    rcases a with _ | a
    · have := h.hx u e1 e2
      exact hc.own this (fun k hk e => by have := hs k e; have := own_base (h.hx u e1 e2) k hk; omega)
    · cases e2), (fun u e1 e2 => by cases e2), (fun u e1 e2 => by cases e2), fun u e1 => hc.own (h.hd u e1) (fun k hk e => by have := hs k e; have := own_base (h.hd u e1) k hk; omega)⟩
end Go.Proofs.Ytopikpjagjnbhaa
