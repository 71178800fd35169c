/- A region that draws its order and stores, appends or makes rows: walked once, with a word on the world that speaks of what is done. -/
import Derived.Test.YtopikpjagjnbhaaRegion
namespace Go.Proofs.Ytopikpjagjnbhaa
open Go.RowKit
def updY (y : Nat → Option Value) (i : Nat) (v : Value) : Nat → Option Value := fun j => if j = i then some v else y j
theorem updY_same (y : Nat → Option Value) (i : Nat) (v : Value) : updY y i v i = some v := by simp [updY]
theorem updY_ne (y : Nat → Option Value) (i : Nat) (v : Value) {j : Nat} (h : i ≠ j) : updY y i v j = y j := by simp [updY, Ne.symm h]
/-- What is told of a result, and stays so by S. -/
structure FactS (S : World → World → Prop) where
  p : Value → World → Prop
  st : ∀ v W W', p v W → S W W' → p v W'
def FactS.any {S : World → World → Prop} : FactS S := ⟨fun _ _ => True, fun _ _ _ h _ => h⟩
def FactS.eq {S : World → World → Prop} (c : Value) : FactS S := ⟨fun v _ => v = c, fun _ _ _ h _ => h⟩
def FactS.val {S : World → World → Prop} (p : Value → Prop) : FactS S := ⟨fun v _ => p v, fun _ _ _ h _ => h⟩
theorem Rds.grown {w w1 : World} {sz n c g : Nat} {A : Option Addr} {cs : List Value} (h : Rds w sz A n c cs) (hg : w.grownBy w1 (some g)) (hne : ∀ ad, A = some ad → ad.block ≠ g) : Rds w1 sz A n c cs :=
  ⟨h.len, h.le, h.max, h.nil, fun ad e j u hj => by
    have hbl : (ad.add j).block = ad.block := by unfold Addr.add; split <;> rfl
    exact hg.cell (h.cell ad e j u hj) (by rw [hbl]; simpa using hne ad e)⟩
section
variable {P : Program} {ops : Array Oper} {Q : Exit → Act → World → Prop}
theorem inv_soundJ (A : (Nat → Value) → Act) (I : (Nat → Option Value) → (Nat → Value) → World → Prop)
    (hdown : edgesDown ops.toList ops.size = true)
    (hstep : ∀ i o, ops[i]? = some o → ∀ y x W, y i = none → I y x W → (∀ e ∈ o.after, Region.binds .any e = true → (y e.on).isSome = true) →
      wpOp P ops Q i (fun a' W' => ∃ v, a' = A (upd x i v) ∧ I (updY y i v) (upd x i v) W') (A x) W)
    (hdone : ∀ y x W, (∀ i, i < ops.size → (y i).isSome = true) → I y x W → Q .normal (A x) W) :
    ∀ (fuel : Nat) (listed : Array Bool) (y : Nat → Option Value) (x : Nat → Value) (W : World), listed.size = ops.size → (listed.toList.count true) + fuel = ops.size →
      (∀ j, (y j).isSome = listed.getD j false) → I y x W → wpAny P .any ops Q fuel listed (A x) W := by
  have full : ∀ (listed : Array Bool), listed.size = ops.size → Region.ready .any ops listed = [] → ∀ n, n ≤ ops.size → ∀ j, j < n → listed.getD j false = true := by
    intro listed hs hr n
    induction n with
    | zero => intro _ j hj; omega
    | succ n ih =>
      intro hn j hj
      have ih' := ih (by omega)
      by_cases hjn : j < n
      · exact ih' j hjn
      · obtain rfl : j = n := by omega
        by_cases hl : listed.getD j false = true
        · exact hl
        · exfalso
          have hlt : j < listed.size := by omega
          have hopj : j < ops.size := by omega
          have hmem : j ∈ Region.ready .any ops listed := by
            rw [mem_ready]
            refine ⟨?_, ops[j], by simp [hopj], ?_⟩
            · simp [hlt] at hl ⊢
              exact hl
            · intro e he hb
              exact ih' _ (edgesDown_spec hdown j ops[j] hopj (by simp [hopj]) e he hb)
          rw [hr] at hmem
          cases hmem
  intro fuel
  induction fuel with
  | zero =>
    intro listed y x W hs hc hy hI
    have hall : ∀ b ∈ listed.toList, b = true := by
      intro b hb
      have hle := List.count_eq_length.1 (show listed.toList.count true = listed.toList.length by rw [Array.length_toList]; omega)
      exact (hle b hb).symm
    have hg : ∀ j, j < ops.size → listed.getD j false = true := by
      intro j hj
      have hlt : j < listed.size := by omega
      have := hall listed[j] (by simp)
      simp [hlt, this]
    refine ⟨?_, hdone y x W (fun i hi => (hy i).trans (hg i hi)) hI⟩
    refine List.eq_nil_iff_forall_not_mem.2 fun j hj => ?_
    obtain ⟨h0, o, ho, _⟩ := mem_ready.1 hj
    have hlt : j < ops.size := (Array.getElem?_eq_some_iff.1 ho).1
    have := hg j hlt
    have hl2 : j < listed.size := by omega
    simp [hl2] at h0 this
    rw [h0] at this
    cases this
  | succ fuel ih =>
    intro listed y x W hs hc hy hI
    refine ⟨fun hr => hdone y x W (fun i hi => (hy i).trans (full listed hs hr ops.size (Nat.le_refl _) i hi)) hI, fun i hi => ?_⟩
    obtain ⟨h0, o, ho, hall⟩ := mem_ready.1 hi
    have hlt : i < ops.size := (Array.getElem?_eq_some_iff.1 ho).1
    have hil : i < listed.size := by omega
    have hfalse : listed[i] = false := by simpa [hil] using h0
    refine wpOp_mono ?_ (hstep i o ho y x W (by have := hy i; simpa [hil, hfalse] using this) hI fun e he hb => (hy _).trans (hall e he hb))
    rintro a' W' ⟨v, rfl, hv⟩
    refine ih _ _ _ _ (by simpa using hs) ?_ (fun j => ?_) hv
    · have : (listed.setIfInBounds i true).toList.count true = listed.toList.count true + 1 := by
        simp only [Array.toList_setIfInBounds]
        rw [List.count_set (by simpa using hil)]
        simp [hfalse]
      omega
    · by_cases hji : j = i
      · subst hji
        rw [updY_same]
        simp [hil]
      · rw [updY_ne _ _ _ (Ne.symm hji), getD_set_ne false (Ne.symm hji)]
        exact hy j
/-- What one operation owes. -/
def OwesJ (P : Program) (ops : Array Oper) (Q : Exit → Act → World → Prop) (dl : List (Nat × Tmp)) (a0 : Act) (S : World → World → Prop) (T : Nat → FactS S) (J : (Nat → Option Value) → World → Prop) (i : Nat) (o : Oper) : Prop :=
  ∀ (a : Act) (x : Nat → Value) (W : World) (y : Nat → Option Value), Frm ops dl a0 a x → y i = none → J y W → (∀ e ∈ o.after, Region.binds .any e = true → y e.on = some (x e.on) ∧ (T e.on).p (x e.on) W) →
    ∀ K : Act → World → Prop, (∀ v W', S W W' → (T i).p v W' → J (updY y i v) W' → K (a.put o.dst v) W') → wpOp P ops Q i K a W
/-- What one operation owes; what a slot held that a later operation writes. -/
def OwesK (P : Program) (ops : Array Oper) (Q : Exit → Act → World → Prop) (dl : List (Nat × Tmp)) (a0 : Act) (S : World → World → Prop) (T : Nat → FactS S) (J : (Nat → Option Value) → World → Prop) (i : Nat) (o : Oper) : Prop :=
  ∀ (a : Act) (x : Nat → Value) (W : World) (y : Nat → Option Value), Frm ops dl a0 a x → y i = none →
    (∀ (k : Nat) (o' : Oper) (d : Tmp) (e : Edge), ops[k]? = some o' → o'.dst = some d → e ∈ o'.after → Region.binds .any e = true → e.on = i → a.tmps[d]?.getD undef = a0.tmps[d]?.getD undef) →
    J y W → (∀ e ∈ o.after, Region.binds .any e = true → y e.on = some (x e.on) ∧ (T e.on).p (x e.on) W) →
    ∀ K : Act → World → Prop, (∀ v W', S W W' → (T i).p v W' → J (updY y i v) W' → K (a.put o.dst v) W') → wpOp P ops Q i K a W
theorem OwesJ.k {P : Program} {ops : Array Oper} {Q : Exit → Act → World → Prop} {dl : List (Nat × Tmp)} {a0 : Act} {S : World → World → Prop} {T : Nat → FactS S} {J : (Nat → Option Value) → World → Prop} {i : Nat} {o : Oper} (h : OwesJ P ops Q dl a0 S T J i o) : OwesK P ops Q dl a0 S T J i o :=
  fun a x W y hF hN _ hJ hE K fK => h a x W y hF hN hJ hE K fK
theorem stepsAll_mono {p q : Nat → Oper → Prop} (h : ∀ i o, p i o → q i o) : ∀ {l : List Oper} {k : Nat}, stepsAll p k l → stepsAll q k l
  | [], _, _ => trivial
  | _ :: _, _, hs => ⟨h _ _ hs.1, stepsAll_mono h hs.2⟩
/-- THE REGION: of each operation once. -/
theorem region_tabK {id : Nat} {w : World} {a0 : Act} (dl : List (Nat × Tmp)) (S : World → World → Prop) (T : Nat → FactS S) (J : (Nat → Option Value) → World → Prop) (hdl : dlOf 0 ops.toList = dl) (hm : P.follows .mixedOrders = true) (hdown : edgesDown ops.toList ops.size = true)
    (hap : apartB (dl.map Prod.snd) = true) (hin : (dl.map Prod.snd).all (fun d => decide (d < a0.tmps.size)) = true)
    (hJ0 : J (fun _ => none) (w.drewN 1))
    (hs : stepsAll (OwesK P ops Q dl a0 S T J) 0 ops.toList)
    (hd : ∀ a x W y, Frm ops dl a0 a x → J y W → (∀ i, i < ops.size → y i = some (x i) ∧ (T i).p (x i) W) → Q .normal a W) :
    (Code.region id ops true).wp P Q a0 w := by
  subst hdl
  have hlt : ∀ i d, (i, d) ∈ dlOf 0 ops.toList → d < a0.tmps.size := by
    intro i d h
    have := List.all_eq_true.1 hin d (List.mem_map.2 ⟨(i, d), h, rfl⟩)
    simpa using this
  have hfrm : ∀ x, Frm ops (dlOf 0 ops.toList) a0 (putAll a0 (dlOf 0 ops.toList) x) x := fun x =>
    ⟨fun i d h => putAll_in x a0 hap (dlOf_mem.2 ⟨Nat.zero_le _, by simpa using h⟩) (hlt i d (dlOf_mem.2 ⟨Nat.zero_le _, by simpa using h⟩)),
     fun t ht => putAll_out x _ _ t (by simpa using ht), rfl, putAll_defers x _ _, putAll_size x _ _⟩
  let x0 : Nat → Value := fun i => match (ops.toList[i]?).bind (·.dst) with | some d => a0.tmps.getD d undef | none => undef
  have h0 : putAll a0 (dlOf 0 ops.toList) x0 = a0 := putAll_self x0 _ _ fun i d h => by
    have hl := hlt i d h
    have h2 := (dlOf_mem.1 h).2
    rw [Nat.sub_zero] at h2
    simp only [x0, h2]
    simp [hl]
  suffices hsuf : (Code.region id ops true).wp P Q (putAll a0 (dlOf 0 ops.toList) x0) w by rw [h0] at hsuf; exact hsuf
  refine wp_region_any hm ?_
  have hz : (Array.replicate ops.size false).toList.count true = 0 := by simp [List.count_replicate]
  refine inv_soundJ (putAll a0 (dlOf 0 ops.toList)) (fun y x W => J y W ∧ (∀ j u, y j = some u → x j = u ∧ (T j).p u W) ∧ (∀ j, y j = none → x j = x0 j) ∧ ∀ (k : Nat) (o : Oper), ops[k]? = some o → (y k).isSome = true → ∀ e ∈ o.after, Region.binds .any e = true → (y e.on).isSome = true) hdown ?_ ?_ ops.size _ (fun _ => none) x0 _ (by simp) (by rw [hz]; omega) ?_ ⟨hJ0, (fun j u h => by cases h), (fun _ _ => rfl), (fun _ _ _ h => by cases h)⟩
  · rintro i o ho y x W hy ⟨hJ, hI, hX, hC⟩ hE
    have h1 := stepsAll_spec hs i o (by simpa using ho)
    rw [Nat.zero_add] at h1
    refine h1 _ x W y (hfrm x) hy (fun k o' d e hk hd he hb hi => ?_) hJ (fun e he hb => ?_) _ fun v W' hS hp hJ' => ⟨v, ?_, hJ', ?_⟩
    · have hyk : y k = none := by
        cases hyk : y k with
        | none => rfl
        | some u =>
          have := hC k o' hk (by rw [hyk]; rfl) e he hb
          rw [hi, hy] at this
          cases this
      have hbd : (ops.toList[k]?).bind (·.dst) = some d := by rw [show ops.toList[k]? = some o' by simpa using hk]; exact hd
      have hin1 := (hfrm x).in_ k d hbd
      have hlt1 := hlt k d (dlOf_mem.2 ⟨Nat.zero_le _, by simpa using hbd⟩)
      rw [hin1, hX k hyk]
      simp only [x0, hbd]
      simp [hlt1]
    · have h2 := hE e he hb
      obtain ⟨u, hu⟩ := Option.isSome_iff_exists.1 h2
      obtain ⟨h3, h4⟩ := hI _ _ hu
      rw [hu, h3]
      exact ⟨rfl, h4⟩
    · cases hod : o.dst with
      | none =>
        rw [putAll_upd_out]
        · rfl
        · intro d hd'
          have h2 := (dlOf_mem.1 hd').2
          rw [Nat.sub_zero, show ops.toList[i]? = some o by simpa using ho] at h2
          simp [hod] at h2
      | some d =>
        exact putAll_put x v a0 hap (dlOf_mem.2 ⟨Nat.zero_le _, by rw [Nat.sub_zero, show ops.toList[i]? = some o by simpa using ho]; simpa using hod⟩)
    · refine ⟨?_, ?_, ?_⟩
      · intro j u hj
        by_cases hji : j = i
        · subst hji
          rw [updY_same] at hj
          cases hj
          exact ⟨upd_same _ _ _, hp⟩
        · rw [updY_ne _ _ _ (Ne.symm hji)] at hj
          obtain ⟨h3, h4⟩ := hI _ _ hj
          exact ⟨by rw [upd_ne _ _ _ hji]; exact h3, (T j).st _ _ _ h4 hS⟩
      · intro j hj
        by_cases hji : j = i
        · subst hji
          rw [updY_same] at hj
          cases hj
        · rw [updY_ne _ _ _ (Ne.symm hji)] at hj
          rw [upd_ne _ _ _ hji]
          exact hX j hj
      · intro k o' hk hs' e he hb
        have h9 : (y e.on).isSome = true := by
          by_cases hki : k = i
          · subst hki
            rw [ho] at hk
            cases hk
            exact hE e he hb
          · rw [updY_ne _ _ _ (Ne.symm hki)] at hs'
            exact hC k o' hk hs' e he hb
        by_cases hei : e.on = i
        · rw [hei, updY_same]; rfl
        · rw [updY_ne _ _ _ (Ne.symm hei)]; exact h9
  · rintro y x W hy ⟨hJ, hI, _⟩
    refine hd _ x W y (hfrm x) hJ fun i hi => ?_
    obtain ⟨u, hu⟩ := Option.isSome_iff_exists.1 (hy i hi)
    obtain ⟨h3, h4⟩ := hI _ _ hu
    rw [hu, h3]
    exact ⟨rfl, h4⟩
  · intro j
    by_cases h : j < ops.size <;> simp [h]
/-- THE REGION: of each operation once. -/
theorem region_tabJ {id : Nat} {w : World} {a0 : Act} (dl : List (Nat × Tmp)) (S : World → World → Prop) (T : Nat → FactS S) (J : (Nat → Option Value) → World → Prop) (hdl : dlOf 0 ops.toList = dl) (hm : P.follows .mixedOrders = true) (hdown : edgesDown ops.toList ops.size = true)
    (hap : apartB (dl.map Prod.snd) = true) (hin : (dl.map Prod.snd).all (fun d => decide (d < a0.tmps.size)) = true)
    (hJ0 : J (fun _ => none) (w.drewN 1))
    (hs : stepsAll (OwesJ P ops Q dl a0 S T J) 0 ops.toList)
    (hd : ∀ a x W y, Frm ops dl a0 a x → J y W → (∀ i, i < ops.size → y i = some (x i) ∧ (T i).p (x i) W) → Q .normal a W) :
    (Code.region id ops true).wp P Q a0 w := by
  exact region_tabK dl S T J hdl hm hdown hap hin hJ0 (stepsAll_mono (fun _ _ h => h.k) hs) hd
/-- An operation met by a law of lists. -/
theorem wpOp_list {i : Nat} {o : Oper} {a : Act} {W : World} {K : Act → World → Prop} (ho : ops[i]? = some o)
    (h : wpList P ops (fun e a' w' => match e with | .normal => K a' w' | e => Q e a' w') [o] a W) : wpOp P ops Q i K a W := by
  simp only [wpList] at h
  unfold wpOp
  simp only [ho]
  split
  · rename_i hw
    rw [if_pos hw] at h
    refine h.imp (fun h => ?_) (fun ⟨h1, h2⟩ => ⟨h1, h2⟩)
    unfold Oper.wp at *
    generalize (execOp a.eval o).run P W = r at *
    cases r with
    | ok n w' =>
      cases n <;> simp only [Oper.upon] at h ⊢ <;>
        first
          | exact h
          | exact Calls.mono h (fun e w'' he => by cases e <;> exact he)
          | exact Rows.mono h (fun _ _ he => he)
    | halt x w' => cases x <;> simp only [Oper.upon] at h ⊢ <;> exact h
  · rename_i hw
    rw [if_neg hw] at h
    exact h
theorem wpOp_to {i : Nat} {o : Oper} {a : Act} {W W' : World} {K : Act → World → Prop} {v : Value} (ho : ops[i]? = some o) (hw : Region.wanted o (yielded ops a.tmps) = true) (hrun : (execOp a.eval o).run P W = .ok (.value v) W')
    (h : K (a.put o.dst v) W') : wpOp P ops Q i K a W := wpOp_run ho hw (by unfold Oper.wp; rw [hrun]; exact h)
theorem wpOp_done {i : Nat} {o : Oper} {a : Act} {W W' : World} {K : Act → World → Prop} (ho : ops[i]? = some o) (hw : Region.wanted o (yielded ops a.tmps) = true) (hrun : (execOp a.eval o).run P W = .ok .skip W')
    (h : K (a.put o.dst undef) W') : wpOp P ops Q i K a W := wpOp_run ho hw (by unfold Oper.wp; rw [hrun]; exact h)
theorem wpOp_call' {i : Nat} {o : Oper} {a : Act} {W : World} {K : Act → World → Prop} (ho : ops[i]? = some o) (hw : Region.wanted o (yielded ops a.tmps) = true) (h : o.wp P a W K Q) : wpOp P ops Q i K a W := wpOp_run ho hw h
end
end Go.Proofs.Ytopikpjagjnbhaa
