/- A region whose last operation waits for all others: these are walked once each, while memory grows; then the last one. -/
import Derived.Test.YtkebkmjffbnihaaRegion
namespace Go.Proofs.Ytkebkmjffbnihaa
open Go.RowKit
/-- The last one waits for each. -/
def waitsAll (ops : List Oper) (last : Nat) : Bool := ((ops[last]?).map fun o => (List.range last).all fun j => o.after.any fun e => Region.binds .any e && (e.on == j)).getD false
section
variable {P : Program} {ops : Array Oper} {Q : Exit → Act → World → Prop}
theorem inv_soundS (A : (Nat → Value) → Act) (J : Nat → Value → World → Prop) (B : Nat) (w : World) (last : Nat) (hlast : last + 1 = ops.size)
    (hdown : edgesDown ops.toList ops.size = true) (hwait : waitsAll ops.toList last = true)
    (hJ : ∀ i v W W', J i v W → Below W.heap.size W W' → J i v W')
    (hstep : ∀ i o, i < last → ops[i]? = some o → ∀ x W, Below B w W → B ≤ W.heap.size → (∀ e ∈ o.after, Region.binds .any e = true → J e.on (x e.on) W) →
      wpOp P ops Q i (fun a' W' => ∃ v, a' = A (upd x i v) ∧ Below W.heap.size W W' ∧ J i v W') (A x) W)
    (hfin : ∀ x W, Below B w W → B ≤ W.heap.size → (∀ i, i < last → J i (x i) W) → wpOp P ops Q last (fun a' W' => Q .normal a' W') (A x) W) :
    ∀ (fuel : Nat) (listed : Array Bool) (x : Nat → Value) (W : World), listed.size = ops.size → (listed.toList.count true) + fuel = ops.size → listed.getD last true = false →
      Below B w W → B ≤ W.heap.size → (∀ j, listed.getD j false = true → J j (x j) W) → wpAny P .any ops Q fuel listed (A x) W := by
  have full : ∀ (listed : Array Bool), listed.size = ops.size → Region.ready .any ops listed = [] → ∀ n, n ≤ ops.size → ∀ j, j < n → listed.getD j false = true := by
    intro listed hs hr n
    induction n with
    | zero => intro _ j hj; omega
    | succ n ih =>
      intro hn j hj
      have ih' := ih (by omega)
      by_cases hjn : j < n
      · exact ih' j hjn
      · obtain rfl : j = n := by omega
        by_cases hl : listed.getD j false = true
        · exact hl
        · exfalso
          have hlt : j < listed.size := by omega
          have hopj : j < ops.size := by omega
          have hmem : j ∈ Region.ready .any ops listed := by
            rw [mem_ready]
            refine ⟨?_, ops[j], by simp [hopj], ?_⟩
            · simp [hlt] at hl ⊢
              exact hl
            · intro e he hb
              exact ih' _ (edgesDown_spec hdown j ops[j] hopj (by simp [hopj]) e he hb)
          rw [hr] at hmem
          cases hmem
  have hunl : ∀ listed : Array Bool, listed.size = ops.size → listed.getD last true = false → Region.ready .any ops listed ≠ [] := by
    intro listed hs hl hr
    have h1 := full listed hs hr ops.size (Nat.le_refl _) last (by omega)
    have h2 : last < listed.size := by omega
    simp [h2] at h1 hl
    rw [h1] at hl
    cases hl
  intro fuel
  induction fuel with
  | zero =>
    intro listed x W hs hc hl hB hBW hJs
    exfalso
    have hle := List.count_eq_length.1 (show listed.toList.count true = listed.toList.length by rw [Array.length_toList]; omega)
    have h2 : last < listed.size := by omega
    have h3 := hle listed[last] (by simp)
    simp [h2] at hl
    rw [hl] at h3
    cases h3
  | succ fuel ih =>
    intro listed x W hs hc hl hB hBW hJs
    refine ⟨fun hr => absurd hr (hunl listed hs hl), fun i hi => ?_⟩
    obtain ⟨h0, o, ho, hall⟩ := mem_ready.1 hi
    have hlt : i < ops.size := (Array.getElem?_eq_some_iff.1 ho).1
    have hil : i < listed.size := by omega
    have hfalse : listed[i] = false := by simpa [hil] using h0
    have hcnt : (listed.setIfInBounds i true).toList.count true = listed.toList.count true + 1 := by
      simp only [Array.toList_setIfInBounds]
      rw [List.count_set (by simpa using hil)]
      simp [hfalse]
    by_cases hlst : i = last
    · subst hlst
      have hallJ : ∀ j, j < i → listed.getD j false = true := by
        intro j hj
        unfold waitsAll at hwait
        rw [show ops.toList[i]? = some o by simpa using ho] at hwait
        simp only [Option.map_some, Option.getD_some, List.all_eq_true, List.mem_range] at hwait
        have h1 := hwait j hj
        rw [Array.any_eq_true] at h1
        obtain ⟨q, hq, h2⟩ := h1
        simp only [Bool.and_eq_true, beq_iff_eq] at h2
        have := hall _ (Array.getElem_mem hq) h2.1
        rw [h2.2] at this
        exact this
      refine wpOp_mono ?_ (hfin x W hB hBW fun j hj => hJs j (hallJ j hj))
      intro a' W' hQ
      have hdone : Region.ready .any ops (listed.setIfInBounds i true) = [] := by
        refine List.eq_nil_iff_forall_not_mem.2 fun j hj => ?_
        obtain ⟨h3, o', ho', _⟩ := mem_ready.1 hj
        have hjl : j < ops.size := (Array.getElem?_eq_some_iff.1 ho').1
        by_cases hji : j = i
        · subst hji
          have hjs : j < listed.size := by omega
          simp [hjs] at h3
        · rw [getD_set_ne _ (Ne.symm hji)] at h3
          have h4 := hallJ j (by omega)
          have hjs : j < listed.size := by omega
          simp [hjs] at h3 h4
          rw [h4] at h3
          cases h3
      cases fuel with
      | zero => exact ⟨hdone, hQ⟩
      | succ fuel => exact ⟨fun _ => hQ, fun j hj => by rw [hdone] at hj; cases hj⟩
    · refine wpOp_mono ?_ (hstep i o (by omega) ho x W hB hBW fun e he hb => hJs _ (hall e he hb))
      rintro a' W' ⟨v, rfl, hbel, hv⟩
      refine ih _ _ _ (by simpa using hs) (by omega) ?_ (below_then hB hBW hbel) (Nat.le_trans hBW hbel.size) fun j hj => ?_
      · rw [getD_set_ne _ hlst]; exact hl
      · by_cases hji : j = i
        · subst hji
          rw [upd_same]
          exact hv
        · rw [upd_ne _ _ _ hji]
          rw [getD_set_ne false (Ne.symm hji)] at hj
          exact hJ _ _ _ _ (hJs j hj) hbel
/-- THE REGION, with a last operation that may do anything. -/
theorem region_tabS {id : Nat} {w : World} {a0 : Act} (last : Nat) (dl : List (Nat × Tmp)) (T : Nat → Fact) (hlast : last + 1 = ops.size) (hdl : dlOf 0 ops.toList = dl) (hm : P.follows .mixedOrders = true) (hdown : edgesDown ops.toList ops.size = true) (hwait : waitsAll ops.toList last = true)
    (hap : apartB (dl.map Prod.snd) = true) (hin : (dl.map Prod.snd).all (fun d => decide (d < a0.tmps.size)) = true)
    (hs : stepsAll (Owes P ops Q dl a0 T w) 0 (ops.toList.take last))
    (hd : ∀ a x W, Frm ops dl a0 a x → Below w.heap.size w W → (∀ i, i < last → (T i).p (x i) W) → wpOp P ops Q last (fun a' W' => Q .normal a' W') a W) :
    (Code.region id ops true).wp P Q a0 w := by
  subst hdl
  have hlt : ∀ i d, (i, d) ∈ dlOf 0 ops.toList → d < a0.tmps.size := by
    intro i d h
    have := List.all_eq_true.1 hin d (List.mem_map.2 ⟨(i, d), h, rfl⟩)
    simpa using this
  have hfrm : ∀ x, Frm ops (dlOf 0 ops.toList) a0 (putAll a0 (dlOf 0 ops.toList) x) x := fun x =>
    ⟨fun i d h => putAll_in x a0 hap (dlOf_mem.2 ⟨Nat.zero_le _, by simpa using h⟩) (hlt i d (dlOf_mem.2 ⟨Nat.zero_le _, by simpa using h⟩)),
     fun t ht => putAll_out x _ _ t (by simpa using ht), rfl, putAll_defers x _ _, putAll_size x _ _⟩
  let x0 : Nat → Value := fun i => match (ops.toList[i]?).bind (·.dst) with | some d => a0.tmps.getD d undef | none => undef
  have h0 : putAll a0 (dlOf 0 ops.toList) x0 = a0 := putAll_self x0 _ _ fun i d h => by
    have hl := hlt i d h
    have h2 := (dlOf_mem.1 h).2
    rw [Nat.sub_zero] at h2
    simp only [x0, h2]
    simp [hl]
  suffices hsuf : (Code.region id ops true).wp P Q (putAll a0 (dlOf 0 ops.toList) x0) w by rw [h0] at hsuf; exact hsuf
  refine wp_region_any hm ?_
  have hz : (Array.replicate ops.size false).toList.count true = 0 := by simp [List.count_replicate]
  have hrep : (Array.replicate ops.size false).getD last true = false := by
    have : last < ops.size := by omega
    simp [this]
  refine inv_soundS (putAll a0 (dlOf 0 ops.toList)) (fun i => (T i).p) w.heap.size w last hlast hdown hwait (fun i v W W' => (T i).st v W W') ?_ (fun x W hB _ hx => hd _ x W (hfrm x) hB hx) ops.size _ x0 _ (by simp) (by rw [hz]; omega) hrep (below_dr (Below.refl _ _) 1) (Nat.le_refl _) ?_
  · intro i o hi ho x W hB _ hE
    have h1 := stepsAll_spec hs i o (by rw [List.getElem?_take]; simp [hi, ho])
    rw [Nat.zero_add] at h1
    refine h1 _ x W (hfrm x) hB hE _ fun v W' hb hp => ⟨v, ?_, hb, hp⟩
    cases hod : o.dst with
    | none =>
      rw [putAll_upd_out]
      · rfl
      · intro d hd'
        have h2 := (dlOf_mem.1 hd').2
        rw [Nat.sub_zero, show ops.toList[i]? = some o by simpa using ho] at h2
        simp [hod] at h2
    | some d =>
      exact putAll_put x v a0 hap (dlOf_mem.2 ⟨Nat.zero_le _, by rw [Nat.sub_zero, show ops.toList[i]? = some o by simpa using ho]; simpa using hod⟩)
  · intro j hj
    by_cases h : j < ops.size <;> simp [h] at hj
theorem wpOp_fin {i : Nat} {o : Oper} {a : Act} {W W' : World} {K : Act → World → Prop} (ho : ops[i]? = some o) (hw : Region.wanted o (yielded ops a.tmps) = true) (hd : o.dst = none) (hrun : (execOp a.eval o).run P W = .ok .skip W')
    (h : K a W') : wpOp P ops Q i K a W := wpOp_run ho hw (by unfold Oper.wp; rw [hrun]; show K (a.put o.dst undef) W'; rw [hd]; exact h)
end
end Go.Proofs.Ytkebkmjffbnihaa
