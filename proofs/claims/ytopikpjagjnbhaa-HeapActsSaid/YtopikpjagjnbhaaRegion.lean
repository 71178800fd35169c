/- A region that draws its order, walked once: what each operation leaves is told of its result alone, and stays so while memory grows. -/
import Derived.Test.YtopikpjagjnbhaaBase
import Derived.Orders
import Derived.IntWalk
namespace Go.Proofs.Ytopikpjagjnbhaa
open Go.RowKit
def upd (x : Nat → Value) (i : Nat) (v : Value) : Nat → Value := fun j => if j = i then v else x j
theorem upd_same (x : Nat → Value) (i : Nat) (v : Value) : upd x i v i = v := by simp [upd]
theorem upd_ne (x : Nat → Value) (i : Nat) (v : Value) {j : Nat} (h : j ≠ i) : upd x i v j = x j := by simp [upd, h]
/-- Each waits for earlier ones alone. -/
def edgesDown (ops : List Oper) : Nat → Bool
  | 0 => true
  | n + 1 => edgesDown ops n && ((ops[n]?).map fun o => o.after.all fun e => !Region.binds .any e || decide (e.on < n)).getD true
theorem edgesDown_spec {ops : Array Oper} : ∀ {n : Nat}, edgesDown ops.toList n = true → ∀ i o, i < n → ops[i]? = some o → ∀ e ∈ o.after, Region.binds .any e = true → e.on < i
  | 0, _, _, _, h, _, _, _, _ => by omega
  | n + 1, hd, i, o, h, ho, e, he, hb => by
    simp only [edgesDown, Bool.and_eq_true] at hd
    by_cases hi : i = n
    · subst hi
      have h2 := hd.2
      rw [show ops.toList[i]? = some o by simpa using ho] at h2
      simp only [Option.map_some, Option.getD_some, Array.all_eq_true'] at h2
      have := h2 e he
      simp [hb] at this
      exact this
    · exact edgesDown_spec hd.1 i o (by omega) ho e he hb
/-- What is told of a result, and stays so while memory grows. -/
structure Fact where
  p : Value → World → Prop
  st : ∀ v W W', p v W → Below W.heap.size W W' → p v W'
def Fact.any : Fact := ⟨fun _ _ => True, fun _ _ _ h _ => h⟩
def Fact.eq (c : Value) : Fact := ⟨fun v _ => v = c, fun _ _ _ h _ => h⟩
/-- A slice whose cells are cs. -/
def Fact.row (sz : Nat) (cs : List Value) : Fact := ⟨fun v W => ∃ A n c, v = .slice A n c ∧ Rds W sz A n c cs, fun _ _ _ ⟨A, n, c, e, h⟩ hb => ⟨A, n, c, e, h.below hb⟩⟩
def stepsAll (p : Nat → Oper → Prop) : Nat → List Oper → Prop
  | _, [] => True
  | k, o :: l => p k o ∧ stepsAll p (k + 1) l
theorem stepsAll_spec {p : Nat → Oper → Prop} : ∀ {l : List Oper} {k : Nat}, stepsAll p k l → ∀ i o, l[i]? = some o → p (k + i) o
  | [], _, _, i, o, h => by simp at h
  | o' :: l, k, hs, 0, o, h => by
    simp at h
    subst h
    exact hs.1
  | o' :: l, k, hs, i + 1, o, h => by
    have := stepsAll_spec hs.2 i o (by simpa using h)
    rwa [show k + 1 + i = k + (i + 1) from by omega] at this
theorem stepsAll_cons {p : Nat → Oper → Prop} {k : Nat} {o : Oper} {l : List Oper} (h : p k o) (hs : stepsAll p (k + 1) l) : stepsAll p k (o :: l) := ⟨h, hs⟩
theorem stepsAll_nil {p : Nat → Oper → Prop} {k : Nat} : stepsAll p k [] := trivial
section
variable {P : Program} {ops : Array Oper} {Q : Exit → Act → World → Prop}
theorem inv_sound (A : (Nat → Value) → Act) (J : Nat → Value → World → Prop) (B : Nat) (w : World)
    (hdown : edgesDown ops.toList ops.size = true)
    (hJ : ∀ i v W W', J i v W → Below W.heap.size W W' → J i v W')
    (hstep : ∀ i o, ops[i]? = some o → ∀ x W, Below B w W → B ≤ W.heap.size → (∀ e ∈ o.after, Region.binds .any e = true → J e.on (x e.on) W) →
      wpOp P ops Q i (fun a' W' => ∃ v, a' = A (upd x i v) ∧ Below W.heap.size W W' ∧ J i v W') (A x) W)
    (hdone : ∀ x W, Below B w W → B ≤ W.heap.size → (∀ i, i < ops.size → J i (x i) W) → Q .normal (A x) W) :
    ∀ (fuel : Nat) (listed : Array Bool) (x : Nat → Value) (W : World), listed.size = ops.size → (listed.toList.count true) + fuel = ops.size →
      Below B w W → B ≤ W.heap.size → (∀ j, listed.getD j false = true → J j (x j) W) → wpAny P .any ops Q fuel listed (A x) W := by
  have full : ∀ (listed : Array Bool), listed.size = ops.size → Region.ready .any ops listed = [] → ∀ n, n ≤ ops.size → ∀ j, j < n → listed.getD j false = true := by
    intro listed hs hr n
    induction n with
    | zero => intro _ j hj; omega
    | succ n ih =>
      intro hn j hj
      have ih' := ih (by omega)
      by_cases hjn : j < n
      · exact ih' j hjn
      · obtain rfl : j = n := by omega
        by_cases hl : listed.getD j false = true
        · exact hl
        · exfalso
          have hlt : j < listed.size := by omega
          have hopj : j < ops.size := by omega
          have hmem : j ∈ Region.ready .any ops listed := by
            rw [mem_ready]
            refine ⟨?_, ops[j], by simp [hopj], ?_⟩
            · simp [hlt] at hl ⊢
              exact hl
            · intro e he hb
              exact ih' _ (edgesDown_spec hdown j ops[j] hopj (by simp [hopj]) e he hb)
          rw [hr] at hmem
          cases hmem
  intro fuel
  induction fuel with
  | zero =>
    intro listed x W hs hc hB hBW hJs
    have hall : ∀ b ∈ listed.toList, b = true := by
      intro b hb
      have hle := List.count_eq_length.1 (show listed.toList.count true = listed.toList.length by rw [Array.length_toList]; omega)
      exact (hle b hb).symm
    have hg : ∀ j, j < ops.size → listed.getD j false = true := by
      intro j hj
      have hlt : j < listed.size := by omega
      have := hall listed[j] (by simp)
      simp [hlt, this]
    refine ⟨?_, hdone x W hB hBW fun i hi => hJs i (hg i hi)⟩
    refine List.eq_nil_iff_forall_not_mem.2 fun j hj => ?_
    obtain ⟨h0, o, ho, _⟩ := mem_ready.1 hj
    have hlt : j < ops.size := (Array.getElem?_eq_some_iff.1 ho).1
    have := hg j hlt
    have hl2 : j < listed.size := by omega
    simp [hl2] at h0 this
    rw [h0] at this
    cases this
  | succ fuel ih =>
    intro listed x W hs hc hB hBW hJs
    refine ⟨fun hr => hdone x W hB hBW fun i hi => hJs i (full listed hs hr ops.size (Nat.le_refl _) i hi), fun i hi => ?_⟩
    obtain ⟨h0, o, ho, hall⟩ := mem_ready.1 hi
    have hlt : i < ops.size := (Array.getElem?_eq_some_iff.1 ho).1
    have hil : i < listed.size := by omega
    refine wpOp_mono ?_ (hstep i o ho x W hB hBW fun e he hb => hJs _ (hall e he hb))
    rintro a' W' ⟨v, rfl, hbel, hv⟩
    refine ih _ _ _ (by simpa using hs) ?_ (below_then hB hBW hbel) (Nat.le_trans hBW hbel.size) fun j hj => ?_
    · have hfalse : listed[i] = false := by simpa [hil] using h0
      have : (listed.setIfInBounds i true).toList.count true = listed.toList.count true + 1 := by
        simp only [Array.toList_setIfInBounds]
        rw [List.count_set (by simpa using hil)]
        simp [hfalse]
      omega
    · by_cases hji : j = i
      · subst hji
        rw [upd_same]
        exact hv
      · rw [upd_ne _ _ _ hji]
        rw [getD_set_ne false (Ne.symm hji)] at hj
        exact hJ _ _ _ _ (hJs j hj) hbel
/-- THE REGION: of each operation once. -/
theorem region_inv {id : Nat} {w : World} (x0 : Nat → Value) (A : (Nat → Value) → Act) (J : Nat → Value → World → Prop) (hm : P.follows .mixedOrders = true)
    (hdown : edgesDown ops.toList ops.size = true)
    (hJ : ∀ i v W W', J i v W → Below W.heap.size W W' → J i v W')
    (hstep : ∀ i o, ops[i]? = some o → ∀ x W, Below w.heap.size w W → (∀ e ∈ o.after, Region.binds .any e = true → J e.on (x e.on) W) →
      wpOp P ops Q i (fun a' W' => ∃ v, a' = A (upd x i v) ∧ Below W.heap.size W W' ∧ J i v W') (A x) W)
    (hdone : ∀ x W, Below w.heap.size w W → (∀ i, i < ops.size → J i (x i) W) → Q .normal (A x) W) :
    (Code.region id ops true).wp P Q (A x0) w := by
  refine wp_region_any hm ?_
  have hz : (Array.replicate ops.size false).toList.count true = 0 := by simp [List.count_replicate]
  refine inv_sound A J w.heap.size w hdown hJ (fun i o ho x W hB _ hE => hstep i o ho x W hB hE) (fun x W hB _ h => hdone x W hB h) ops.size _ x0 _ (by simp) (by rw [hz]; omega) (below_dr (Below.refl _ _) 1) (Nat.le_refl _) ?_
  intro j hj
  by_cases h : j < ops.size <;> simp [h] at hj
theorem wpOp_run {i : Nat} {o : Oper} {a : Act} {W : World} {K : Act → World → Prop} (ho : ops[i]? = some o) (hw : Region.wanted o (yielded ops a.tmps) = true) (h : o.wp P a W K Q) : wpOp P ops Q i K a W := by
  unfold wpOp
  simp only [ho, hw, if_true]
  exact .inl h
theorem wpOp_val {i : Nat} {o : Oper} {a : Act} {W : World} {K : Act → World → Prop} {v : Value} (ho : ops[i]? = some o) (hw : Region.wanted o (yielded ops a.tmps) = true) (hrun : (execOp a.eval o).run P W = .ok (.value v) W)
    (h : K (a.put o.dst v) W) : wpOp P ops Q i K a W := wpOp_run ho hw (by unfold Oper.wp; rw [hrun]; exact h)
theorem wpOp_skip {i : Nat} {o : Oper} {a : Act} {W : World} {K : Act → World → Prop} (ho : ops[i]? = some o) (hw : Region.wanted o (yielded ops a.tmps) = false) (h : K (a.put o.dst undef) W) : wpOp P ops Q i K a W := by
  unfold wpOp
  simp only [ho, hw]
  exact h
/-- The region's results: number and place. -/
def dlOf : Nat → List Oper → List (Nat × Tmp)
  | _, [] => []
  | k, o :: l => (match o.dst with | some d => [(k, d)] | none => []) ++ dlOf (k + 1) l
/-- The frame with the region's results in it. -/
def putAll (a : Act) : List (Nat × Tmp) → (Nat → Value) → Act
  | [], _ => a
  | (i, d) :: l, x => putAll (a.put (some d) (x i)) l x
def apartB : List Tmp → Bool
  | [] => true
  | d :: l => !l.contains d && apartB l
theorem dlOf_mem : ∀ {l : List Oper} {k i : Nat} {d : Tmp}, (i, d) ∈ dlOf k l ↔ k ≤ i ∧ (l[i - k]?).bind (·.dst) = some d
  | [], k, i, d => by simp [dlOf]
  | o :: l, k, i, d => by
    simp only [dlOf, List.mem_append, dlOf_mem (l := l)]
    constructor
    · rintro (h | ⟨h1, h2⟩)
      · cases ho : o.dst with
        | none => rw [ho] at h; simp at h
        | some d' =>
          rw [ho] at h
          simp at h
          obtain ⟨rfl, rfl⟩ := h
          simp [ho]
      · refine ⟨by omega, ?_⟩
        rw [show i - k = (i - (k + 1)) + 1 from by omega]
        simpa using h2
    · rintro ⟨h1, h2⟩
      by_cases hik : i = k
      · subst hik
        simp at h2
        left
        rw [h2]
        simp
      · right
        refine ⟨by omega, ?_⟩
        rw [show i - k = (i - (k + 1)) + 1 from by omega] at h2
        simpa using h2
theorem dlOf_lt {l : List Oper} {k i : Nat} {d : Tmp} (h : (i, d) ∈ dlOf k l) : k ≤ i := (dlOf_mem.1 h).1
theorem putAll_upd_out (x : Nat → Value) (i : Nat) (v : Value) : ∀ (l : List (Nat × Tmp)) (a : Act), (∀ d, (i, d) ∉ l) → putAll a l (upd x i v) = putAll a l x
  | [], _, _ => rfl
  | (j, d) :: l, a, h => by
    have hj : j ≠ i := fun e => h d (by subst e; simp)
    simp only [putAll, upd_ne _ _ _ hj]
    exact putAll_upd_out x i v l _ (fun d' hd => h d' (by simp [hd]))
theorem put_put (a : Act) (d : Tmp) (v u : Value) : (a.put (some d) v).put (some d) u = a.put (some d) u := by
  simp [Act.put, Array.setIfInBounds_setIfInBounds]
theorem putAll_put_comm (x : Nat → Value) (d : Tmp) (v : Value) : ∀ (l : List (Nat × Tmp)) (a : Act), d ∉ l.map Prod.snd → (putAll a l x).put (some d) v = putAll (a.put (some d) v) l x
  | [], _, _ => rfl
  | (j, d') :: l, a, h => by
    simp only [putAll]
    rw [putAll_put_comm x d v l _ (fun hd => h (by simp [hd]))]
    rw [Act.put_comm a (x j) v (x := some d') (y := some d) (fun q hq hq' => h (by cases hq; cases hq'; simp))]
theorem putAll_put (x : Nat → Value) (v : Value) : ∀ {l : List Oper} {k i : Nat} {d : Tmp} (a : Act), apartB ((dlOf k l).map Prod.snd) = true → (i, d) ∈ dlOf k l → (putAll a (dlOf k l) x).put (some d) v = putAll a (dlOf k l) (upd x i v)
  | [], _, _, _, _, _, h => by simp [dlOf] at h
  | o :: l, k, i, d, a, hap, h => by
    cases ho : o.dst with
    | none =>
      simp only [dlOf, ho, List.nil_append] at hap h ⊢
      exact putAll_put x v a hap h
    | some d' =>
      simp only [dlOf, ho, List.singleton_append, List.map_cons, apartB, Bool.and_eq_true, Bool.not_eq_true', List.mem_cons, Prod.mk.injEq] at hap h ⊢
      have hnc : d' ∉ (dlOf (k + 1) l).map Prod.snd := by simpa using hap.1
      rcases h with ⟨rfl, rfl⟩ | h
      · simp only [putAll, upd_same]
        rw [putAll_upd_out x i v _ _ (fun d' hd => by have := dlOf_lt hd; omega), putAll_put_comm x d v _ _ hnc, put_put]
      · have hik : k ≠ i := by have := dlOf_lt h; omega
        simp only [putAll, upd_ne _ _ _ hik]
        exact putAll_put x v _ hap.2 h
theorem putAll_defers (x : Nat → Value) : ∀ (l : List (Nat × Tmp)) (a : Act), (putAll a l x).defers = a.defers
  | [], _ => rfl
  | (j, d) :: l, a => by simp only [putAll]; rw [putAll_defers x l]; rfl
theorem putAll_size (x : Nat → Value) : ∀ (l : List (Nat × Tmp)) (a : Act), (putAll a l x).tmps.size = a.tmps.size
  | [], _ => rfl
  | (j, d) :: l, a => by simp only [putAll]; rw [putAll_size x l]; simp [Act.put]
theorem putAll_out (x : Nat → Value) : ∀ (l : List (Nat × Tmp)) (a : Act) (t : Tmp), t ∉ l.map Prod.snd → (putAll a l x).tmps[t]? = a.tmps[t]?
  | [], _, _, _ => rfl
  | (j, d) :: l, a, t, h => by
    simp only [putAll]
    rw [putAll_out x l _ t (fun ht => h (by simp [ht]))]
    have hne : d ≠ t := fun e => h (by simp [e])
    simp [Act.put, Array.getElem?_setIfInBounds_ne hne]
theorem putAll_in (x : Nat → Value) : ∀ {l : List Oper} {k i : Nat} {d : Tmp} (a : Act), apartB ((dlOf k l).map Prod.snd) = true → (i, d) ∈ dlOf k l → d < a.tmps.size → (putAll a (dlOf k l) x).tmps[d]? = some (x i)
  | [], _, _, _, _, _, h, _ => by simp [dlOf] at h
  | o :: l, k, i, d, a, hap, h, hd => by
    cases ho : o.dst with
    | none =>
      simp only [dlOf, ho, List.nil_append] at hap h ⊢
      exact putAll_in x a hap h hd
    | some d' =>
      simp only [dlOf, ho, List.singleton_append, List.map_cons, apartB, Bool.and_eq_true, Bool.not_eq_true', List.mem_cons, Prod.mk.injEq] at hap h ⊢
      have hnc : d' ∉ (dlOf (k + 1) l).map Prod.snd := by simpa using hap.1
      rcases h with ⟨rfl, rfl⟩ | h
      · simp only [putAll]
        rw [putAll_out x _ _ _ hnc]
        simp [Act.put, hd]
      · simp only [putAll]
        exact putAll_in x _ hap.2 h (by simpa [Act.put] using hd)
theorem putAll_self (x : Nat → Value) : ∀ (l : List (Nat × Tmp)) (a : Act), (∀ i d, (i, d) ∈ l → a.tmps[d]? = some (x i)) → putAll a l x = a
  | [], _, _ => rfl
  | (j, d) :: l, a, h => by
    have hs : a.put (some d) (x j) = a := by
      obtain ⟨tm, df⟩ := a
      simp only [Act.put, Act.mk.injEq, and_true]
      have h1 := h j d (by simp)
      simp only at h1
      apply Array.ext_getElem?
      intro q
      by_cases hq : d = q
      · subst hq
        rw [h1]
        have := (Array.getElem?_eq_some_iff.1 h1).1
        simp [this]
      · rw [Array.getElem?_setIfInBounds_ne hq]
    simp only [putAll, hs]
    exact putAll_self x l a (fun i d' hd => h i d' (by simp [hd]))
/-- What is known of the frame while the region runs. -/
structure Frm (ops : Array Oper) (dl : List (Nat × Tmp)) (a0 a : Act) (x : Nat → Value) : Prop where
  in_ : ∀ i d, (ops.toList[i]?).bind (·.dst) = some d → a.tmps[d]? = some (x i)
  out : ∀ t, (dl.map Prod.snd).contains t = false → a.tmps[t]? = a0.tmps[t]?
  eq : a = putAll a0 dl x
  defers : a.defers = a0.defers
  size : a.tmps.size = a0.tmps.size
theorem Frm.ev {dl : List (Nat × Tmp)} {a0 a : Act} {x : Nat → Value} (h : Frm ops dl a0 a x) (i : Nat) (d : Tmp) (hd : (ops.toList[i]?).bind (·.dst) = some d) : a.tmps[d]?.getD undef = x i := by
  simp [h.in_ i d hd]
theorem Frm.eo {dl : List (Nat × Tmp)} {a0 a : Act} {x : Nat → Value} (h : Frm ops dl a0 a x) (t : Tmp) (ht : (dl.map Prod.snd).contains t = false) : a.tmps[t]?.getD undef = a0.tmps[t]?.getD undef := by
  simp [h.out t ht]
theorem Frm.yes {dl : List (Nat × Tmp)} {a0 a : Act} {x : Nat → Value} (h : Frm ops dl a0 a x) (j : Nat) (d : Tmp) (hd : (ops.toList[j]?).bind (·.dst) = some d) (b : Bool) (hx : x j = .bool b) : yielded ops a.tmps j = some b := by
  have hd' : (ops[j]?).bind (·.dst) = some d := by rw [← Array.getElem?_toList]; exact hd
  unfold yielded
  rw [hd']
  simp [h.in_ j d hd, hx]
theorem Frm.no {dl : List (Nat × Tmp)} {a0 a : Act} {x : Nat → Value} (h : Frm ops dl a0 a x) (j : Nat) (d : Tmp) (hd : (ops.toList[j]?).bind (·.dst) = some d) (hx : x j = undef) : yielded ops a.tmps j = none := by
  have hd' : (ops[j]?).bind (·.dst) = some d := by rw [← Array.getElem?_toList]; exact hd
  unfold yielded
  rw [hd']
  simp [h.in_ j d hd, hx, undef]
/-- The function's end behind such a region: one result. -/
theorem Frm.ret {dl : List (Nat × Tmp)} {a0 a : Act} {x : Nat → Value} (hF : Frm ops dl a0 a x) {fn : Func} {R : Ending → World → Prop} {w : World} {t : Tmp} {v : Value} (h : fn.results = #[.tmp t]) (hd : a0.defers = []) (he : a.tmps[t]?.getD undef = v) (hR : R (.returned v) w) :
    bodyPost P fn R .ret a w :=
  bodyPost_ret (results_tmp h _ _ _) (hF.defers.trans hd) (by rw [Array.getD_eq_getD_getElem?, he]; exact hR)
theorem wanted_yes {o : Oper} {a : Act} {j : Nat} (hg : o.guard = some (j, true)) (h : yielded ops a.tmps j = some true) : Region.wanted o (yielded ops a.tmps) = true := by
  simp [Region.wanted, hg, h]
theorem wanted_not {o : Oper} {a : Act} {j : Nat} (hg : o.guard = some (j, false)) (h : yielded ops a.tmps j = some false) : Region.wanted o (yielded ops a.tmps) = true := by
  simp [Region.wanted, hg, h]
theorem wanted_none {o : Oper} {a : Act} (hg : o.guard = none) : Region.wanted o (yielded ops a.tmps) = true := by
  simp [Region.wanted, hg]
theorem wpOp_call {i : Nat} {o : Oper} {a : Act} {W : World} {K : Act → World → Prop} {f : FuncId} {args : Array Value} (ho : ops[i]? = some o) (hw : Region.wanted o (yielded ops a.tmps) = true) (hrun : (execOp a.eval o).run P W = .ok (.enter f args) W)
    (h : Calls P f args W fun e W' => ∃ v, e = .returned v ∧ K (a.put o.dst v) W') : wpOp P ops Q i K a W :=
  wpOp_run ho hw (by
    unfold Oper.wp
    rw [hrun]
    refine Calls.mono h ?_
    rintro e W' ⟨v, rfl, hK⟩
    exact hK)
/-- What one operation owes. -/
def Owes (P : Program) (ops : Array Oper) (Q : Exit → Act → World → Prop) (dl : List (Nat × Tmp)) (a0 : Act) (T : Nat → Fact) (w : World) (i : Nat) (o : Oper) : Prop :=
  ∀ (a : Act) (x : Nat → Value) (W : World), Frm ops dl a0 a x → Below w.heap.size w W → (∀ e ∈ o.after, Region.binds .any e = true → (T e.on).p (x e.on) W) →
    ∀ K : Act → World → Prop, (∀ v W', Below W.heap.size W W' → (T i).p v W' → K (a.put o.dst v) W') → wpOp P ops Q i K a W
/-- THE REGION: of each operation once. -/
theorem region_tab {id : Nat} {w : World} {a0 : Act} (dl : List (Nat × Tmp)) (T : Nat → Fact) (hdl : dlOf 0 ops.toList = dl) (hm : P.follows .mixedOrders = true) (hdown : edgesDown ops.toList ops.size = true)
    (hap : apartB (dl.map Prod.snd) = true) (hin : (dl.map Prod.snd).all (fun d => decide (d < a0.tmps.size)) = true)
    (hs : stepsAll (Owes P ops Q dl a0 T w) 0 ops.toList)
    (hd : ∀ a x W, Frm ops dl a0 a x → Below w.heap.size w W → (∀ i, i < ops.size → (T i).p (x i) W) → Q .normal a W) :
    (Code.region id ops true).wp P Q a0 w := by
  subst hdl
  have hlt : ∀ i d, (i, d) ∈ dlOf 0 ops.toList → d < a0.tmps.size := by
    intro i d h
    have := List.all_eq_true.1 hin d (List.mem_map.2 ⟨(i, d), h, rfl⟩)
    simpa using this
  have hfrm : ∀ x, Frm ops (dlOf 0 ops.toList) a0 (putAll a0 (dlOf 0 ops.toList) x) x := fun x =>
    ⟨fun i d h => putAll_in x a0 hap (dlOf_mem.2 ⟨Nat.zero_le _, by simpa using h⟩) (hlt i d (dlOf_mem.2 ⟨Nat.zero_le _, by simpa using h⟩)),
     fun t ht => putAll_out x _ _ t (by simpa using ht), rfl, putAll_defers x _ _, putAll_size x _ _⟩
  let x0 : Nat → Value := fun i => match (ops.toList[i]?).bind (·.dst) with | some d => a0.tmps.getD d undef | none => undef
  have h0 : putAll a0 (dlOf 0 ops.toList) x0 = a0 := putAll_self x0 _ _ fun i d h => by
    have hl := hlt i d h
    have h2 := (dlOf_mem.1 h).2
    rw [Nat.sub_zero] at h2
    simp only [x0, h2]
    simp [hl]
  have := region_inv (P := P) (ops := ops) (Q := Q) (id := id) (w := w) x0 (putAll a0 (dlOf 0 ops.toList)) (fun i => (T i).p) hm hdown (fun i v W W' => (T i).st v W W') ?_ (fun x W hB hx => hd _ x W (hfrm x) hB hx)
  · rw [h0] at this; exact this
  · intro i o ho x W hB hE
    have h1 := stepsAll_spec hs i o (by simpa using ho)
    rw [Nat.zero_add] at h1
    refine h1 _ x W (hfrm x) hB hE _ fun v W' hb hp => ⟨v, ?_, hb, hp⟩
    cases hod : o.dst with
    | none =>
      rw [putAll_upd_out]
      · rfl
      · intro d hd'
        have h2 := (dlOf_mem.1 hd').2
        rw [Nat.sub_zero, show ops.toList[i]? = some o by simpa using ho] at h2
        simp [hod] at h2
    | some d =>
      exact putAll_put x v a0 hap (dlOf_mem.2 ⟨Nat.zero_le _, by rw [Nat.sub_zero, show ops.toList[i]? = some o by simpa using ho]; simpa using hod⟩)
end
end Go.Proofs.Ytopikpjagjnbhaa
