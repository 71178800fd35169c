/- A region that draws its order, walked once: what each operation leaves is told of its result alone, and stays so while memory grows. -/
import Derived.Test.YtabdipfpfbdghaaGreatZBase
import Derived.Orders
import Derived.IntWalk
namespace Go.Proofs.YtabdipfpfbdghaaGreat
open Go.RowKit
def upd (x : Nat → Value) (i : Nat) (v : Value) : Nat → Value := fun j => if j = i then v else x j
theorem upd_same (x : Nat → Value) (i : Nat) (v : Value) : upd x i v i = v := by simp [upd]
theorem upd_ne (x : Nat → Value) (i : Nat) (v : Value) {j : Nat} (h : j ≠ i) : upd x i v j = x j := by simp [upd, h]
/-- Each waits for earlier ones alone. -/
def edgesDown (ops : List Oper) : Nat → Bool
  | 0 => true
  | n + 1 => edgesDown ops n && ((ops[n]?).map fun o => o.after.all fun e => !Region.binds .any e || decide (e.on < n)).getD true
theorem edgesDown_spec {ops : Array Oper} : ∀ {n : Nat}, edgesDown ops.toList n = true → ∀ i o, i < n → ops[i]? = some o → ∀ e ∈ o.after, Region.binds .any e = true → e.on < i
  | 0, _, _, _, h, _, _, _, _ => by omega
  | n + 1, hd, i, o, h, ho, e, he, hb => by
    simp only [edgesDown, Bool.and_eq_true] at hd
    by_cases hi : i = n
    · subst hi
      have h2 := hd.2
      rw [show ops.toList[i]? = some o by simpa using ho] at h2
      simp only [Option.map_some, Option.getD_some, Array.all_eq_true'] at h2
      have := h2 e he
      simp [hb] at this
      exact this
    · exact edgesDown_spec hd.1 i o (by omega) ho e he hb
/-- What is told of a result, and stays so while memory grows. -/
structure Fact where
  p : Value → World → Prop
  st : ∀ v W W', p v W → Below W.heap.size W W' → p v W'
def Fact.any : Fact := ⟨fun _ _ => True, fun _ _ _ h _ => h⟩
def Fact.eq (c : Value) : Fact := ⟨fun v _ => v = c, fun _ _ _ h _ => h⟩
/-- A slice whose cells are cs. -/
def Fact.row (sz : Nat) (cs : List Value) : Fact := ⟨fun v W => ∃ A n c, v = .slice A n c ∧ Rds W sz A n c cs, fun _ _ _ ⟨A, n, c, e, h⟩ hb => ⟨A, n, c, e, h.below hb⟩⟩
def stepsAll (p : Nat → Oper → Prop) : Nat → List Oper → Prop
  | _, [] => True
  | k, o :: l => p k o ∧ stepsAll p (k + 1) l
theorem stepsAll_spec {p : Nat → Oper → Prop} : ∀ {l : List Oper} {k : Nat}, stepsAll p k l → ∀ i o, l[i]? = some o → p (k + i) o
  | [], _, _, i, o, h => by simp at h
  | o' :: l, k, hs, 0, o, h => by
    simp at h
    subst h
    exact hs.1
  | o' :: l, k, hs, i + 1, o, h => by
    have := stepsAll_spec hs.2 i o (by simpa using h)
    rwa [show k + 1 + i = k + (i + 1) from by omega] at this
theorem stepsAll_cons {p : Nat → Oper → Prop} {k : Nat} {o : Oper} {l : List Oper} (h : p k o) (hs : stepsAll p (k + 1) l) : stepsAll p k (o :: l) := ⟨h, hs⟩
theorem stepsAll_nil {p : Nat → Oper → Prop} {k : Nat} : stepsAll p k [] := trivial
section
variable {P : Program} {ops : Array Oper} {Q : Exit → Act → World → Prop}
theorem inv_sound (A : (Nat → Value) → Act) (J : Nat → Value → World → Prop) (B : Nat) (w : World)
    (hdown : edgesDown ops.toList ops.size = true)
    (hJ : ∀ i v W W', J i v W → Below W.heap.size W W' → J i v W')
    (hstep : ∀ i o, ops[i]? = some o → ∀ x W, Below B w W → B ≤ W.heap.size → (∀ e ∈ o.after, Region.binds .any e = true → J e.on (x e.on) W) →
      wpOp P ops Q i (fun a' W' => ∃ v, a' = A (upd x i v) ∧ Below W.heap.size W W' ∧ J i v W') (A x) W)
    (hdone : ∀ x W, Below B w W → B ≤ W.heap.size → (∀ i, i < ops.size → J i (x i) W) → Q .normal (A x) W) :
    ∀ (fuel : Nat) (listed : Array Bool) (x : Nat → Value) (W : World), listed.size = ops.size → (listed.toList.count true) + fuel = ops.size →
      Below B w W → B ≤ W.heap.size → (∀ j, listed.getD j false = true → J j (x j) W) → wpAny P .any ops Q fuel listed (A x) W := by
  have full : ∀ (listed : Array Bool), listed.size = ops.size → Region.ready .any ops listed = [] → ∀ n, n ≤ ops.size → ∀ j, j < n → listed.getD j false = true := by
    intro listed hs hr n
    induction n with
    | zero => intro _ j hj; omega
    | succ n ih =>
      intro hn j hj
      have ih' := ih (by omega)
      by_cases hjn : j < n
      · exact ih' j hjn
      · obtain rfl : j = n := by omega
        by_cases hl : listed.getD j false = true
        · exact hl
        · exfalso
          have hlt : j < listed.size := by omega
          have hopj : j < ops.size := by omega
          have hmem : j ∈ Region.ready .any ops listed := by
            rw [mem_ready]
            refine ⟨?_, ops[j], by simp [hopj], ?_⟩
            · simp [hlt] at hl ⊢
              exact hl
            · intro e he hb
              exact ih' _ (edgesDown_spec hdown j ops[j] hopj (by simp [hopj]) e he hb)
          rw [hr] at hmem
          cases hmem
  intro fuel
  induction fuel with
  | zero =>
    intro listed x W hs hc hB hBW hJs
    have hall : ∀ b ∈ listed.toList, b = true := by
      intro b hb
      have hle := List.count_eq_length.1 (show listed.toList.count true = listed.toList.length by rw [Array.length_toList]; omega)
      exact (hle b hb).symm
    have hg : ∀ j, j < ops.size → listed.getD j false = true := by
      intro j hj
      have hlt : j < listed.size := by omega
      have := hall listed[j] (by simp)
      simp [hlt, this]
    refine ⟨?_, hdone x W hB hBW fun i hi => hJs i (hg i hi)⟩
    refine List.eq_nil_iff_forall_not_mem.2 fun j hj => ?_
    obtain ⟨h0, o, ho, _⟩ := mem_ready.1 hj
    have hlt : j < ops.size := (Array.getElem?_eq_some_iff.1 ho).1
    have := hg j hlt
    have hl2 : j < listed.size := by omega
    simp [hl2] at h0 this
    rw [h0] at this
    cases this
  | succ fuel ih =>
    intro listed x W hs hc hB hBW hJs
    refine ⟨fun hr => hdone x W hB hBW fun i hi => hJs i (full listed hs hr ops.size (Nat.le_refl _) i hi), fun i hi => ?_⟩
    obtain ⟨h0, o, ho, hall⟩ := mem_ready.1 hi
    have hlt : i < ops.size := (Array.getElem?_eq_some_iff.1 ho).1
    have hil : i < listed.size := by omega
    refine wpOp_mono ?_ (hstep i o ho x W hB hBW fun e he hb => hJs _ (hall e he hb))
    rintro a' W' ⟨v, rfl, hbel, hv⟩
    refine ih _ _ _ (by simpa using hs) ?_ (below_then hB hBW hbel) (Nat.le_trans hBW hbel.size) fun j hj => ?_
    · have hfalse : listed[i] = false := by simpa [hil] using h0
      have : (listed.setIfInBounds i true).toList.count true = listed.toList.count true + 1 := by
        simp only [Array.toList_setIfInBounds]
        rw [List.count_set (by simpa using hil)]
        simp [hfalse]
      omega
    · by_cases hji : j = i
      · subst hji
        rw [upd_same]
        exact hv
      · rw [upd_ne _ _ _ hji]
        rw [getD_set_ne false (Ne.symm hji)] at hj
        exact hJ _ _ _ _ (hJs j hj) hbel
/-- THE REGION: of each operation once. -/
theorem region_inv {id : Nat} {w : World} (x0 : Nat → Value) (A : (Nat → Value) → Act) (J : Nat → Value → World → Prop) (hm : P.follows .mixedOrders = true)
    (hdown : edgesDown ops.toList ops.size = true)
    (hJ : ∀ i v W W', J i v W → Below W.heap.size W W' → J i v W')
    (hstep : ∀ i o, ops[i]? = some o → ∀ x W, Below w.heap.size w W → (∀ e ∈ o.after, Region.binds .any e = true → J e.on (x e.on) W) →
      wpOp P ops Q i (fun a' W' => ∃ v, a' = A (upd x i v) ∧ Below W.heap.size W W' ∧ J i v W') (A x) W)
    (hdone : ∀ x W, Below w.heap.size w W → (∀ i, i < ops.size → J i (x i) W) → Q .normal (A x) W) :
    (Code.region id ops true).wp P Q (A x0) w := by
  refine wp_region_any hm ?_
  have hz : (Array.replicate ops.size false).toList.count true = 0 := by simp [List.count_replicate]
  refine inv_sound A J w.heap.size w hdown hJ (fun i o ho x W hB _ hE => hstep i o ho x W hB hE) (fun x W hB _ h => hdone x W hB h) ops.size _ x0 _ (by simp) (by rw [hz]; omega) (below_dr (Below.refl _ _) 1) (Nat.le_refl _) ?_
  intro j hj
  by_cases h : j < ops.size <;> simp [h] at hj
theorem wpOp_run {i : Nat} {o : Oper} {a : Act} {W : World} {K : Act → World → Prop} (ho : ops[i]? = some o) (hw : Region.wanted o (yielded ops a.tmps) = true) (h : o.wp P a W K Q) : wpOp P ops Q i K a W := by
  unfold wpOp
  simp only [ho, hw, if_true]
  exact .inl h
theorem wpOp_val {i : Nat} {o : Oper} {a : Act} {W : World} {K : Act → World → Prop} {v : Value} (ho : ops[i]? = some o) (hw : Region.wanted o (yielded ops a.tmps) = true) (hrun : (execOp a.eval o).run P W = .ok (.value v) W)
    (h : K (a.put o.dst v) W) : wpOp P ops Q i K a W := wpOp_run ho hw (by unfold Oper.wp; rw [hrun]; exact h)
theorem wpOp_skip {i : Nat} {o : Oper} {a : Act} {W : World} {K : Act → World → Prop} (ho : ops[i]? = some o) (hw : Region.wanted o (yielded ops a.tmps) = false) (h : K (a.put o.dst undef) W) : wpOp P ops Q i K a W := by
  unfold wpOp
  simp only [ho, hw]
  exact h
/-- The region's results: number and place. -/
def dlOf : Nat → List Oper → List (Nat × Tmp)
  | _, [] => []
  | k, o :: l => (match o.dst with | some d => [(k, d)] | none => []) ++ dlOf (k + 1) l
/-- The frame with the region's results in it. -/
def putAll (a : Act) : List (Nat × Tmp) → (Nat → Value) → Act
  | [], _ => a
  | (i, d) :: l, x => putAll (a.put (some d) (x i)) l x
def apartB : List Tmp → Bool
  | [] => true
  | d :: l => !l.contains d && apartB l
theorem dlOf_mem : ∀ {l : List Oper} {k i : Nat} {d : Tmp}, (i, d) ∈ dlOf k l ↔ k ≤ i ∧ (l[i - k]?).bind (·.dst) = some d
  | [], k, i, d => by simp [dlOf]
  | o :: l, k, i, d => by
    simp only [dlOf, List.mem_append, dlOf_mem (l := l)]
    constructor
    · rintro (h | ⟨h1, h2⟩)
      · cases ho : o.dst with
        | none => rw [ho] at h; simp at h
        | some d' =>
          rw [ho] at h
          simp at h
          obtain ⟨rfl, rfl⟩ := h
          simp [ho]
      · refine ⟨by omega, ?_⟩
        rw [show i - k = (i - (k + 1)) + 1 from by omega]
        simpa using h2
    · rintro ⟨h1, h2⟩
      by_cases hik : i = k
      · subst hik
        simp at h2
        left
        rw [h2]
        simp
      · right
        refine ⟨by omega, ?_⟩
        rw [show i - k = (i - (k + 1)) + 1 from by omega] at h2
        simpa using h2
theorem dlOf_lt {l : List Oper} {k i : Nat} {d : Tmp} (h : (i, d) ∈ dlOf k l) : k ≤ i := (dlOf_mem.1 h).1
theorem putAll_upd_out (x : Nat → Value) (i : Nat) (v : Value) : ∀ (l : List (Nat × Tmp)) (a : Act), (∀ d, (i, d) ∉ l) → putAll a l (upd x i v) = putAll a l x
  | [], _, _ => rfl
  | (j, d) :: l, a, h => by
    have hj : j ≠ i := fun e => h d (by subst e; simp)
    simp only [putAll, upd_ne _ _ _ hj]
    exact putAll_upd_out x i v l _ (fun d' hd => h d' (by simp [hd]))
theorem put_put (a : Act) (d : Tmp) (v u : Value) : (a.put (some d) v).put (some d) u = a.put (some d) u := by
  simp [Act.put, Array.setIfInBounds_setIfInBounds]
theorem putAll_put_comm (x : Nat → Value) (d : Tmp) (v : Value) : ∀ (l : List (Nat × Tmp)) (a : Act), d ∉ l.map Prod.snd → (putAll a l x).put (some d) v = putAll (a.put (some d) v) l x
  | [], _, _ => rfl
  | (j, d') :: l, a, h => by
    simp only [putAll]
    rw [putAll_put_comm x d v l _ (fun hd => h (by simp [hd]))]
    rw [Act.put_comm a (x j) v (x := some d') (y := some d) (fun q hq hq' => h (by cases hq; cases hq'; simp))]
theorem putAll_put (x : Nat → Value) (v : Value) : ∀ {l : List Oper} {k i : Nat} {d : Tmp} (a : Act), apartB ((dlOf k l).map Prod.snd) = true → (i, d) ∈ dlOf k l → (putAll a (dlOf k l) x).put (some d) v = putAll a (dlOf k l) (upd x i v)
  | [], _, _, _, _, _, h => by simp [dlOf] at h
  | o :: l, k, i, d, a, hap, h => by
    cases ho : o.dst with
    | none =>
      simp only [dlOf, ho, List.nil_append] at hap h ⊢
      exact putAll_put x v a hap h
    | some d' =>
      simp only [dlOf, ho, List.singleton_append, List.map_cons, apartB, Bool.and_eq_true, Bool.not_eq_true', List.mem_cons, Prod.mk.injEq] at hap h ⊢
      have hnc : d' ∉ (dlOf (k + 1) l).map Prod.snd := by simpa using hap.1
      rcases h with ⟨rfl, rfl⟩ | h
      · simp only [putAll, upd_same]
        rw [putAll_upd_out x i v _ _ (fun d' hd => by have := dlOf_lt hd; omega), putAll_put_comm x d v _ _ hnc, put_put]
      · have hik : k ≠ i := by have := dlOf_lt h; omega
        simp only [putAll, upd_ne _ _ _ hik]
        exact putAll_put x v _ hap.2 h
theorem putAll_defers (x : Nat → Value) : ∀ (l : List (Nat × Tmp)) (a : Act), (putAll a l x).defers = a.defers
  | [], _ => rfl
  | (j, d) :: l, a => by simp only [putAll]; rw [putAll_defers x l]; rfl
theorem putAll_size (x : Nat → Value) : ∀ (l : List (Nat × Tmp)) (a : Act), (putAll a l x).tmps.size = a.tmps.size
  | [], _ => rfl
  | (j, d) :: l, a => by simp only [putAll]; rw [putAll_size x l]; simp [Act.put]
theorem putAll_out (x : Nat → Value) : ∀ (l : List (Nat × Tmp)) (a : Act) (t : Tmp), t ∉ l.map Prod.snd → (putAll a l x).tmps[t]? = a.tmps[t]?
  | [], _, _, _ => rfl
  | (j, d) :: l, a, t, h => by
    simp only [putAll]
    rw [putAll_out x l _ t (fun ht => h (by simp [ht]))]
    have hne : d ≠ t := fun e => h (by simp [e])
    simp [Act.put, Array.getElem?_setIfInBounds_ne hne]
theorem putAll_in (x : Nat → Value) : ∀ {l : List Oper} {k i : Nat} {d : Tmp} (a : Act), apartB ((dlOf k l).map Prod.snd) = true → (i, d) ∈ dlOf k l → d < a.tmps.size → (putAll a (dlOf k l) x).tmps[d]? = some (x i)
  | [], _, _, _, _, _, h, _ => by simp [dlOf] at h
  | o :: l, k, i, d, a, hap, h, hd => by
    cases ho : o.dst with
    | none =>
      simp only [dlOf, ho, List.nil_append] at hap h ⊢
      exact putAll_in x a hap h hd
    | some d' =>
      simp only [dlOf, ho, List.singleton_append, List.map_cons, apartB, Bool.and_eq_true, Bool.not_eq_true', List.mem_cons, Prod.mk.injEq] at hap h ⊢
      have hnc : d' ∉ (dlOf (k + 1) l).map Prod.snd := by simpa using hap.1
      rcases h with ⟨rfl, rfl⟩ | h
      · simp only [putAll]
        rw [putAll_out x _ _ _ hnc]
        simp [Act.put, hd]
      · simp only [putAll]
        exact putAll_in x _ hap.2 h (by simpa [Act.put] using hd)
theorem putAll_self (x : Nat → Value) : ∀ (l : List (Nat × Tmp)) (a : Act), (∀ i d, (i, d) ∈ l → a.tmps[d]? = some (x i)) → putAll a l x = a
  | [], _, _ => rfl
  | (j, d) :: l, a, h => by
    have hs : a.put (some d) (x j) = a := by
      obtain ⟨tm, df⟩ := a
      simp only [Act.put, Act.mk.injEq, and_true]
      have h1 := h j d (by simp)
      simp only at h1
      apply Array.ext_getElem?
      intro q
      by_cases hq : d = q
      · subst hq
        rw [h1]
        have := (Array.getElem?_eq_some_iff.1 h1).1
        simp [this]
      · rw [Array.getElem?_setIfInBounds_ne hq]
    simp only [putAll, hs]
    exact putAll_self x l a (fun i d' hd => h i d' (by simp [hd]))
/-- What is known of the frame while the region runs. -/
structure Frm (ops : Array Oper) (dl : List (Nat × Tmp)) (a0 a : Act) (x : Nat → Value) : Prop where
  in_ : ∀ i d, (ops.toList[i]?).bind (·.dst) = some d → a.tmps[d]? = some (x i)
  out : ∀ t, (dl.map Prod.snd).contains t = false → a.tmps[t]? = a0.tmps[t]?
  eq : a = putAll a0 dl x
  defers : a.defers = a0.defers
  size : a.tmps.size = a0.tmps.size
theorem Frm.ev {dl : List (Nat × Tmp)} {a0 a : Act} {x : Nat → Value} (h : Frm ops dl a0 a x) (i : Nat) (d : Tmp) (hd : (ops.toList[i]?).bind (·.dst) = some d) : a.tmps[d]?.getD undef = x i := by
  simp [h.in_ i d hd]
theorem Frm.eo {dl : List (Nat × Tmp)} {a0 a : Act} {x : Nat → Value} (h : Frm ops dl a0 a x) (t : Tmp) (ht : (dl.map Prod.snd).contains t = false) : a.tmps[t]?.getD undef = a0.tmps[t]?.getD undef := by
  simp [h.out t ht]
theorem Frm.yes {dl : List (Nat × Tmp)} {a0 a : Act} {x : Nat → Value} (h : Frm ops dl a0 a x) (j : Nat) (d : Tmp) (hd : (ops.toList[j]?).bind (·.dst) = some d) (b : Bool) (hx : x j = .bool b) : yielded ops a.tmps j = some b := by
  have hd' : (ops[j]?).bind (·.dst) = some d := by rw [← Array.getElem?_toList]; exact hd
  unfold yielded
  rw [hd']
  simp [h.in_ j d hd, hx]
theorem Frm.no {dl : List (Nat × Tmp)} {a0 a : Act} {x : Nat → Value} (h : Frm ops dl a0 a x) (j : Nat) (d : Tmp) (hd : (ops.toList[j]?).bind (·.dst) = some d) (hx : x j = undef) : yielded ops a.tmps j = none := by
  have hd' : (ops[j]?).bind (·.dst) = some d := by rw [← Array.getElem?_toList]; exact hd
  unfold yielded
  rw [hd']
  simp [h.in_ j d hd, hx, undef]
/-- The function's end behind such a region: one result. -/
theorem Frm.ret {dl : List (Nat × Tmp)} {a0 a : Act} {x : Nat → Value} (hF : Frm ops dl a0 a x) {fn : Func} {R : Ending → World → Prop} {w : World} {t : Tmp} {v : Value} (h : fn.results = #[.tmp t]) (hd : a0.defers = []) (he : a.tmps[t]?.getD undef = v) (hR : R (.returned v) w) :
    bodyPost P fn R .ret a w :=
  bodyPost_ret (results_tmp h _ _ _) (hF.defers.trans hd) (by rw [Array.getD_eq_getD_getElem?, he]; exact hR)
theorem wanted_yes {o : Oper} {a : Act} {j : Nat} (hg : o.guard = some (j, true)) (h : yielded ops a.tmps j = some true) : Region.wanted o (yielded ops a.tmps) = true := by
  simp [Region.wanted, hg, h]
theorem wanted_not {o : Oper} {a : Act} {j : Nat} (hg : o.guard = some (j, false)) (h : yielded ops a.tmps j = some false) : Region.wanted o (yielded ops a.tmps) = true := by
  simp [Region.wanted, hg, h]
theorem wanted_none {o : Oper} {a : Act} (hg : o.guard = none) : Region.wanted o (yielded ops a.tmps) = true := by
  simp [Region.wanted, hg]
theorem wpOp_call {i : Nat} {o : Oper} {a : Act} {W : World} {K : Act → World → Prop} {f : FuncId} {args : Array Value} (ho : ops[i]? = some o) (hw : Region.wanted o (yielded ops a.tmps) = true) (hrun : (execOp a.eval o).run P W = .ok (.enter f args) W)
    (h : Calls P f args W fun e W' => ∃ v, e = .returned v ∧ K (a.put o.dst v) W') : wpOp P ops Q i K a W :=
  wpOp_run ho hw (by
    unfold Oper.wp
    rw [hrun]
    refine Calls.mono h ?_
    rintro e W' ⟨v, rfl, hK⟩
    exact hK)
/-- What one operation owes. -/
def Owes (P : Program) (ops : Array Oper) (Q : Exit → Act → World → Prop) (dl : List (Nat × Tmp)) (a0 : Act) (T : Nat → Fact) (w : World) (i : Nat) (o : Oper) : Prop :=
  ∀ (a : Act) (x : Nat → Value) (W : World), Frm ops dl a0 a x → Below w.heap.size w W → (∀ e ∈ o.after, Region.binds .any e = true → (T e.on).p (x e.on) W) →
    ∀ K : Act → World → Prop, (∀ v W', Below W.heap.size W W' → (T i).p v W' → K (a.put o.dst v) W') → wpOp P ops Q i K a W
/-- THE REGION: of each operation once. -/
theorem region_tab {id : Nat} {w : World} {a0 : Act} (dl : List (Nat × Tmp)) (T : Nat → Fact) (hdl : dlOf 0 ops.toList = dl) (hm : P.follows .mixedOrders = true) (hdown : edgesDown ops.toList ops.size = true)
    (hap : apartB (dl.map Prod.snd) = true) (hin : (dl.map Prod.snd).all (fun d => decide (d < a0.tmps.size)) = true)
    (hs : stepsAll (Owes P ops Q dl a0 T w) 0 ops.toList)
    (hd : ∀ a x W, Frm ops dl a0 a x → Below w.heap.size w W → (∀ i, i < ops.size → (T i).p (x i) W) → Q .normal a W) :
    (Code.region id ops true).wp P Q a0 w := by
  subst hdl
  have hlt : ∀ i d, (i, d) ∈ dlOf 0 ops.toList → d < a0.tmps.size := by
    intro i d h
    have := List.all_eq_true.1 hin d (List.mem_map.2 ⟨(i, d), h, rfl⟩)
    simpa using this
  have hfrm : ∀ x, Frm ops (dlOf 0 ops.toList) a0 (putAll a0 (dlOf 0 ops.toList) x) x := fun x =>
    ⟨fun i d h => putAll_in x a0 hap (dlOf_mem.2 ⟨Nat.zero_le _, by simpa using h⟩) (hlt i d (dlOf_mem.2 ⟨Nat.zero_le _, by simpa using h⟩)),
     fun t ht => putAll_out x _ _ t (by simpa using ht), rfl, putAll_defers x _ _, putAll_size x _ _⟩
  let x0 : Nat → Value := fun i => match (ops.toList[i]?).bind (·.dst) with | some d => a0.tmps.getD d undef | none => undef
  have h0 : putAll a0 (dlOf 0 ops.toList) x0 = a0 := putAll_self x0 _ _ fun i d h => by
    have hl := hlt i d h
    have h2 := (dlOf_mem.1 h).2
    rw [Nat.sub_zero] at h2
    simp only [x0, h2]
    simp [hl]
  have := region_inv (P := P) (ops := ops) (Q := Q) (id := id) (w := w) x0 (putAll a0 (dlOf 0 ops.toList)) (fun i => (T i).p) hm hdown (fun i v W W' => (T i).st v W W') ?_ (fun x W hB hx => hd _ x W (hfrm x) hB hx)
  · rw [h0] at this; exact this
  · intro i o ho x W hB hE
    have h1 := stepsAll_spec hs i o (by simpa using ho)
    rw [Nat.zero_add] at h1
    refine h1 _ x W (hfrm x) hB hE _ fun v W' hb hp => ⟨v, ?_, hb, hp⟩
    cases hod : o.dst with
    | none =>
      rw [putAll_upd_out]
      · rfl
      · intro d hd'
        have h2 := (dlOf_mem.1 hd').2
        rw [Nat.sub_zero, show ops.toList[i]? = some o by simpa using ho] at h2
        simp [hod] at h2
    | some d =>
      exact putAll_put x v a0 hap (dlOf_mem.2 ⟨Nat.zero_le _, by rw [Nat.sub_zero, show ops.toList[i]? = some o by simpa using ho]; simpa using hod⟩)
end
end Go.Proofs.YtabdipfpfbdghaaGreat

/- A region that draws its order and stores, appends or makes rows: walked once, with a word on the world that speaks of what is done. -/
namespace Go.Proofs.YtabdipfpfbdghaaGreat
open Go.RowKit
def updY (y : Nat → Option Value) (i : Nat) (v : Value) : Nat → Option Value := fun j => if j = i then some v else y j
theorem updY_same (y : Nat → Option Value) (i : Nat) (v : Value) : updY y i v i = some v := by simp [updY]
theorem updY_ne (y : Nat → Option Value) (i : Nat) (v : Value) {j : Nat} (h : i ≠ j) : updY y i v j = y j := by simp [updY, Ne.symm h]
/-- What is told of a result, and stays so by S. -/
structure FactS (S : World → World → Prop) where
  p : Value → World → Prop
  st : ∀ v W W', p v W → S W W' → p v W'
def FactS.any {S : World → World → Prop} : FactS S := ⟨fun _ _ => True, fun _ _ _ h _ => h⟩
def FactS.eq {S : World → World → Prop} (c : Value) : FactS S := ⟨fun v _ => v = c, fun _ _ _ h _ => h⟩
def FactS.val {S : World → World → Prop} (p : Value → Prop) : FactS S := ⟨fun v _ => p v, fun _ _ _ h _ => h⟩
theorem Rds.grown {w w1 : World} {sz n c g : Nat} {A : Option Addr} {cs : List Value} (h : Rds w sz A n c cs) (hg : w.grownBy w1 (some g)) (hne : ∀ ad, A = some ad → ad.block ≠ g) : Rds w1 sz A n c cs :=
  ⟨h.len, h.le, h.max, h.nil, fun ad e j u hj => by
    have hbl : (ad.add j).block = ad.block := by unfold Addr.add; split <;> rfl
    exact hg.cell (h.cell ad e j u hj) (by rw [hbl]; simpa using hne ad e)⟩
section
variable {P : Program} {ops : Array Oper} {Q : Exit → Act → World → Prop}
theorem inv_soundJ (A : (Nat → Value) → Act) (I : (Nat → Option Value) → (Nat → Value) → World → Prop)
    (hdown : edgesDown ops.toList ops.size = true)
    (hstep : ∀ i o, ops[i]? = some o → ∀ y x W, y i = none → I y x W → (∀ e ∈ o.after, Region.binds .any e = true → (y e.on).isSome = true) →
      wpOp P ops Q i (fun a' W' => ∃ v, a' = A (upd x i v) ∧ I (updY y i v) (upd x i v) W') (A x) W)
    (hdone : ∀ y x W, (∀ i, i < ops.size → (y i).isSome = true) → I y x W → Q .normal (A x) W) :
    ∀ (fuel : Nat) (listed : Array Bool) (y : Nat → Option Value) (x : Nat → Value) (W : World), listed.size = ops.size → (listed.toList.count true) + fuel = ops.size →
      (∀ j, (y j).isSome = listed.getD j false) → I y x W → wpAny P .any ops Q fuel listed (A x) W := by
  have full : ∀ (listed : Array Bool), listed.size = ops.size → Region.ready .any ops listed = [] → ∀ n, n ≤ ops.size → ∀ j, j < n → listed.getD j false = true := by
    intro listed hs hr n
    induction n with
    | zero => intro _ j hj; omega
    | succ n ih =>
      intro hn j hj
      have ih' := ih (by omega)
      by_cases hjn : j < n
      · exact ih' j hjn
      · obtain rfl : j = n := by omega
        by_cases hl : listed.getD j false = true
        · exact hl
        · exfalso
          have hlt : j < listed.size := by omega
          have hopj : j < ops.size := by omega
          have hmem : j ∈ Region.ready .any ops listed := by
            rw [mem_ready]
            refine ⟨?_, ops[j], by simp [hopj], ?_⟩
            · simp [hlt] at hl ⊢
              exact hl
            · intro e he hb
              exact ih' _ (edgesDown_spec hdown j ops[j] hopj (by simp [hopj]) e he hb)
          rw [hr] at hmem
          cases hmem
  intro fuel
  induction fuel with
  | zero =>
    intro listed y x W hs hc hy hI
    have hall : ∀ b ∈ listed.toList, b = true := by
      intro b hb
      have hle := List.count_eq_length.1 (show listed.toList.count true = listed.toList.length by rw [Array.length_toList]; omega)
      exact (hle b hb).symm
    have hg : ∀ j, j < ops.size → listed.getD j false = true := by
      intro j hj
      have hlt : j < listed.size := by omega
      have := hall listed[j] (by simp)
      simp [hlt, this]
    refine ⟨?_, hdone y x W (fun i hi => (hy i).trans (hg i hi)) hI⟩
    refine List.eq_nil_iff_forall_not_mem.2 fun j hj => ?_
    obtain ⟨h0, o, ho, _⟩ := mem_ready.1 hj
    have hlt : j < ops.size := (Array.getElem?_eq_some_iff.1 ho).1
    have := hg j hlt
    have hl2 : j < listed.size := by omega
    simp [hl2] at h0 this
    rw [h0] at this
    cases this
  | succ fuel ih =>
    intro listed y x W hs hc hy hI
    refine ⟨fun hr => hdone y x W (fun i hi => (hy i).trans (full listed hs hr ops.size (Nat.le_refl _) i hi)) hI, fun i hi => ?_⟩
    obtain ⟨h0, o, ho, hall⟩ := mem_ready.1 hi
    have hlt : i < ops.size := (Array.getElem?_eq_some_iff.1 ho).1
    have hil : i < listed.size := by omega
    have hfalse : listed[i] = false := by simpa [hil] using h0
    refine wpOp_mono ?_ (hstep i o ho y x W (by have := hy i; simpa [hil, hfalse] using this) hI fun e he hb => (hy _).trans (hall e he hb))
    rintro a' W' ⟨v, rfl, hv⟩
    refine ih _ _ _ _ (by simpa using hs) ?_ (fun j => ?_) hv
    · have : (listed.setIfInBounds i true).toList.count true = listed.toList.count true + 1 := by
        simp only [Array.toList_setIfInBounds]
        rw [List.count_set (by simpa using hil)]
        simp [hfalse]
      omega
    · by_cases hji : j = i
      · subst hji
        rw [updY_same]
        simp [hil]
      · rw [updY_ne _ _ _ (Ne.symm hji), getD_set_ne false (Ne.symm hji)]
        exact hy j
/-- What one operation owes. -/
def OwesJ (P : Program) (ops : Array Oper) (Q : Exit → Act → World → Prop) (dl : List (Nat × Tmp)) (a0 : Act) (S : World → World → Prop) (T : Nat → FactS S) (J : (Nat → Option Value) → World → Prop) (i : Nat) (o : Oper) : Prop :=
  ∀ (a : Act) (x : Nat → Value) (W : World) (y : Nat → Option Value), Frm ops dl a0 a x → y i = none → J y W → (∀ e ∈ o.after, Region.binds .any e = true → y e.on = some (x e.on) ∧ (T e.on).p (x e.on) W) →
    ∀ K : Act → World → Prop, (∀ v W', S W W' → (T i).p v W' → J (updY y i v) W' → K (a.put o.dst v) W') → wpOp P ops Q i K a W
/-- What one operation owes; what a slot held that a later operation writes. -/
def OwesK (P : Program) (ops : Array Oper) (Q : Exit → Act → World → Prop) (dl : List (Nat × Tmp)) (a0 : Act) (S : World → World → Prop) (T : Nat → FactS S) (J : (Nat → Option Value) → World → Prop) (i : Nat) (o : Oper) : Prop :=
  ∀ (a : Act) (x : Nat → Value) (W : World) (y : Nat → Option Value), Frm ops dl a0 a x → y i = none →
    (∀ (k : Nat) (o' : Oper) (d : Tmp) (e : Edge), ops[k]? = some o' → o'.dst = some d → e ∈ o'.after → Region.binds .any e = true → e.on = i → a.tmps[d]?.getD undef = a0.tmps[d]?.getD undef) →
    J y W → (∀ e ∈ o.after, Region.binds .any e = true → y e.on = some (x e.on) ∧ (T e.on).p (x e.on) W) →
    ∀ K : Act → World → Prop, (∀ v W', S W W' → (T i).p v W' → J (updY y i v) W' → K (a.put o.dst v) W') → wpOp P ops Q i K a W
theorem OwesJ.k {P : Program} {ops : Array Oper} {Q : Exit → Act → World → Prop} {dl : List (Nat × Tmp)} {a0 : Act} {S : World → World → Prop} {T : Nat → FactS S} {J : (Nat → Option Value) → World → Prop} {i : Nat} {o : Oper} (h : OwesJ P ops Q dl a0 S T J i o) : OwesK P ops Q dl a0 S T J i o :=
  fun a x W y hF hN _ hJ hE K fK => h a x W y hF hN hJ hE K fK
theorem stepsAll_mono {p q : Nat → Oper → Prop} (h : ∀ i o, p i o → q i o) : ∀ {l : List Oper} {k : Nat}, stepsAll p k l → stepsAll q k l
  | [], _, _ => trivial
  | _ :: _, _, hs => ⟨h _ _ hs.1, stepsAll_mono h hs.2⟩
/-- THE REGION: of each operation once. -/
theorem region_tabK {id : Nat} {w : World} {a0 : Act} (dl : List (Nat × Tmp)) (S : World → World → Prop) (T : Nat → FactS S) (J : (Nat → Option Value) → World → Prop) (hdl : dlOf 0 ops.toList = dl) (hm : P.follows .mixedOrders = true) (hdown : edgesDown ops.toList ops.size = true)
    (hap : apartB (dl.map Prod.snd) = true) (hin : (dl.map Prod.snd).all (fun d => decide (d < a0.tmps.size)) = true)
    (hJ0 : J (fun _ => none) (w.drewN 1))
    (hs : stepsAll (OwesK P ops Q dl a0 S T J) 0 ops.toList)
    (hd : ∀ a x W y, Frm ops dl a0 a x → J y W → (∀ i, i < ops.size → y i = some (x i) ∧ (T i).p (x i) W) → Q .normal a W) :
    (Code.region id ops true).wp P Q a0 w := by
  subst hdl
  have hlt : ∀ i d, (i, d) ∈ dlOf 0 ops.toList → d < a0.tmps.size := by
    intro i d h
    have := List.all_eq_true.1 hin d (List.mem_map.2 ⟨(i, d), h, rfl⟩)
    simpa using this
  have hfrm : ∀ x, Frm ops (dlOf 0 ops.toList) a0 (putAll a0 (dlOf 0 ops.toList) x) x := fun x =>
    ⟨fun i d h => putAll_in x a0 hap (dlOf_mem.2 ⟨Nat.zero_le _, by simpa using h⟩) (hlt i d (dlOf_mem.2 ⟨Nat.zero_le _, by simpa using h⟩)),
     fun t ht => putAll_out x _ _ t (by simpa using ht), rfl, putAll_defers x _ _, putAll_size x _ _⟩
  let x0 : Nat → Value := fun i => match (ops.toList[i]?).bind (·.dst) with | some d => a0.tmps.getD d undef | none => undef
  have h0 : putAll a0 (dlOf 0 ops.toList) x0 = a0 := putAll_self x0 _ _ fun i d h => by
    have hl := hlt i d h
    have h2 := (dlOf_mem.1 h).2
    rw [Nat.sub_zero] at h2
    simp only [x0, h2]
    simp [hl]
  suffices hsuf : (Code.region id ops true).wp P Q (putAll a0 (dlOf 0 ops.toList) x0) w by rw [h0] at hsuf; exact hsuf
  refine wp_region_any hm ?_
  have hz : (Array.replicate ops.size false).toList.count true = 0 := by simp [List.count_replicate]
  refine inv_soundJ (putAll a0 (dlOf 0 ops.toList)) (fun y x W => J y W ∧ (∀ j u, y j = some u → x j = u ∧ (T j).p u W) ∧ (∀ j, y j = none → x j = x0 j) ∧ ∀ (k : Nat) (o : Oper), ops[k]? = some o → (y k).isSome = true → ∀ e ∈ o.after, Region.binds .any e = true → (y e.on).isSome = true) hdown ?_ ?_ ops.size _ (fun _ => none) x0 _ (by simp) (by rw [hz]; omega) ?_ ⟨hJ0, (fun j u h => by cases h), (fun _ _ => rfl), (fun _ _ _ h => by cases h)⟩
  · rintro i o ho y x W hy ⟨hJ, hI, hX, hC⟩ hE
    have h1 := stepsAll_spec hs i o (by simpa using ho)
    rw [Nat.zero_add] at h1
    refine h1 _ x W y (hfrm x) hy (fun k o' d e hk hd he hb hi => ?_) hJ (fun e he hb => ?_) _ fun v W' hS hp hJ' => ⟨v, ?_, hJ', ?_⟩
    · have hyk : y k = none := by
        cases hyk : y k with
        | none => rfl
        | some u =>
          have := hC k o' hk (by rw [hyk]; rfl) e he hb
          rw [hi, hy] at this
          cases this
      have hbd : (ops.toList[k]?).bind (·.dst) = some d := by rw [show ops.toList[k]? = some o' by simpa using hk]; exact hd
      have hin1 := (hfrm x).in_ k d hbd
      have hlt1 := hlt k d (dlOf_mem.2 ⟨Nat.zero_le _, by simpa using hbd⟩)
      rw [hin1, hX k hyk]
      simp only [x0, hbd]
      simp [hlt1]
    · have h2 := hE e he hb
      obtain ⟨u, hu⟩ := Option.isSome_iff_exists.1 h2
      obtain ⟨h3, h4⟩ := hI _ _ hu
      rw [hu, h3]
      exact ⟨rfl, h4⟩
    · cases hod : o.dst with
      | none =>
        rw [putAll_upd_out]
        · rfl
        · intro d hd'
          have h2 := (dlOf_mem.1 hd').2
          rw [Nat.sub_zero, show ops.toList[i]? = some o by simpa using ho] at h2
          simp [hod] at h2
      | some d =>
        exact putAll_put x v a0 hap (dlOf_mem.2 ⟨Nat.zero_le _, by rw [Nat.sub_zero, show ops.toList[i]? = some o by simpa using ho]; simpa using hod⟩)
    · refine ⟨?_, ?_, ?_⟩
      · intro j u hj
        by_cases hji : j = i
        · subst hji
          rw [updY_same] at hj
          cases hj
          exact ⟨upd_same _ _ _, hp⟩
        · rw [updY_ne _ _ _ (Ne.symm hji)] at hj
          obtain ⟨h3, h4⟩ := hI _ _ hj
          exact ⟨by rw [upd_ne _ _ _ hji]; exact h3, (T j).st _ _ _ h4 hS⟩
      · intro j hj
        by_cases hji : j = i
        · subst hji
          rw [updY_same] at hj
          cases hj
        · rw [updY_ne _ _ _ (Ne.symm hji)] at hj
          rw [upd_ne _ _ _ hji]
          exact hX j hj
      · intro k o' hk hs' e he hb
        have h9 : (y e.on).isSome = true := by
          by_cases hki : k = i
          · subst hki
            rw [ho] at hk
            cases hk
            exact hE e he hb
          · rw [updY_ne _ _ _ (Ne.symm hki)] at hs'
            exact hC k o' hk hs' e he hb
        by_cases hei : e.on = i
        · rw [hei, updY_same]; rfl
        · rw [updY_ne _ _ _ (Ne.symm hei)]; exact h9
  · rintro y x W hy ⟨hJ, hI, _⟩
    refine hd _ x W y (hfrm x) hJ fun i hi => ?_
    obtain ⟨u, hu⟩ := Option.isSome_iff_exists.1 (hy i hi)
    obtain ⟨h3, h4⟩ := hI _ _ hu
    rw [hu, h3]
    exact ⟨rfl, h4⟩
  · intro j
    by_cases h : j < ops.size <;> simp [h]
/-- THE REGION: of each operation once. -/
theorem region_tabJ {id : Nat} {w : World} {a0 : Act} (dl : List (Nat × Tmp)) (S : World → World → Prop) (T : Nat → FactS S) (J : (Nat → Option Value) → World → Prop) (hdl : dlOf 0 ops.toList = dl) (hm : P.follows .mixedOrders = true) (hdown : edgesDown ops.toList ops.size = true)
    (hap : apartB (dl.map Prod.snd) = true) (hin : (dl.map Prod.snd).all (fun d => decide (d < a0.tmps.size)) = true)
    (hJ0 : J (fun _ => none) (w.drewN 1))
    (hs : stepsAll (OwesJ P ops Q dl a0 S T J) 0 ops.toList)
    (hd : ∀ a x W y, Frm ops dl a0 a x → J y W → (∀ i, i < ops.size → y i = some (x i) ∧ (T i).p (x i) W) → Q .normal a W) :
    (Code.region id ops true).wp P Q a0 w := by
  exact region_tabK dl S T J hdl hm hdown hap hin hJ0 (stepsAll_mono (fun _ _ h => h.k) hs) hd
/-- An operation met by a law of lists. -/
theorem wpOp_list {i : Nat} {o : Oper} {a : Act} {W : World} {K : Act → World → Prop} (ho : ops[i]? = some o)
    (h : wpList P ops (fun e a' w' => match e with | .normal => K a' w' | e => Q e a' w') [o] a W) : wpOp P ops Q i K a W := by
  simp only [wpList] at h
  unfold wpOp
  simp only [ho]
  split
  · rename_i hw
    rw [if_pos hw] at h
    refine h.imp (fun h => ?_) (fun ⟨h1, h2⟩ => ⟨h1, h2⟩)
    unfold Oper.wp at *
    generalize (execOp a.eval o).run P W = r at *
    cases r with
    | ok n w' =>
      cases n <;> simp only [Oper.upon] at h ⊢ <;>
        first
          | exact h
          | exact Calls.mono h (fun e w'' he => by cases e <;> exact he)
          | exact Rows.mono h (fun _ _ he => he)
    | halt x w' => cases x <;> simp only [Oper.upon] at h ⊢ <;> exact h
  · rename_i hw
    rw [if_neg hw] at h
    exact h
theorem wpOp_to {i : Nat} {o : Oper} {a : Act} {W W' : World} {K : Act → World → Prop} {v : Value} (ho : ops[i]? = some o) (hw : Region.wanted o (yielded ops a.tmps) = true) (hrun : (execOp a.eval o).run P W = .ok (.value v) W')
    (h : K (a.put o.dst v) W') : wpOp P ops Q i K a W := wpOp_run ho hw (by unfold Oper.wp; rw [hrun]; exact h)
theorem wpOp_done {i : Nat} {o : Oper} {a : Act} {W W' : World} {K : Act → World → Prop} (ho : ops[i]? = some o) (hw : Region.wanted o (yielded ops a.tmps) = true) (hrun : (execOp a.eval o).run P W = .ok .skip W')
    (h : K (a.put o.dst undef) W') : wpOp P ops Q i K a W := wpOp_run ho hw (by unfold Oper.wp; rw [hrun]; exact h)
theorem wpOp_call' {i : Nat} {o : Oper} {a : Act} {W : World} {K : Act → World → Prop} (ho : ops[i]? = some o) (hw : Region.wanted o (yielded ops a.tmps) = true) (h : o.wp P a W K Q) : wpOp P ops Q i K a W := wpOp_run ho hw h
end
end Go.Proofs.YtabdipfpfbdghaaGreat

/- A region whose last operations wait for all that stand ahead of them: the others are walked once each, while memory grows; then the last ones, in order. -/
namespace Go.Proofs.YtabdipfpfbdghaaGreat
open Go.RowKit
/-- Whom an operation waits for, as bits. -/
def maskOf (acc : List Nat) (l : List Edge) : Nat := l.foldl (fun s e => if Region.binds .any e then s ||| 2 ^ e.on ||| acc.getD e.on 0 else s) 0
def masksOf : List Oper → List Nat → List Nat
  | [], acc => acc
  | o :: l, acc => masksOf l (acc ++ [maskOf acc o.after.toList])
/-- From m on each waits for all ahead of it. -/
def waitsAll (ops : List Oper) (m : Nat) : Bool := (List.range ops.length).all fun i => decide (i < m) || (List.range i).all fun j => ((masksOf ops []).getD i 0).testBit j
theorem maskOf_bit {acc : List Nat} {L : Nat → Prop} (hacc : ∀ i, L i → ∀ j, (acc.getD i 0).testBit j = true → L j) (l : List Edge) (hl : ∀ e ∈ l, Region.binds .any e = true → L e.on) (j : Nat) (h : (maskOf acc l).testBit j = true) : L j := by
  unfold maskOf at h
  have : ∀ (l : List Edge) (s : Nat), (∀ e ∈ l, Region.binds .any e = true → L e.on) → (∀ j, s.testBit j = true → L j) → ∀ j, (l.foldl (fun s e => if Region.binds .any e then s ||| 2 ^ e.on ||| acc.getD e.on 0 else s) s).testBit j = true → L j := by
    intro l
    induction l with
    | nil => intro s _ hs j h; exact hs j h
    | cons e l ih =>
      intro s hl hs j h
      simp only [List.foldl_cons] at h
      refine ih _ (fun e' he' => hl e' (by simp [he'])) ?_ j h
      intro j hj
      split at hj
      · rename_i hb
        rw [Nat.testBit_or, Nat.testBit_or, Bool.or_eq_true, Bool.or_eq_true] at hj
        have he := hl e (by simp) hb
        rcases hj with (h1 | h1) | h1
        · exact hs j h1
        · rw [Nat.testBit_two_pow] at h1
          have : e.on = j := by simpa using h1
          rw [← this]; exact he
        · exact hacc e.on he j h1
      · exact hs j hj
  exact this l 0 hl (by intro j h; simp at h) j h
theorem masksOf_bit {L : Nat → Prop} (ops : List Oper) (hC : ∀ i o, ops[i]? = some o → L i → ∀ e ∈ o.after, Region.binds .any e = true → L e.on) :
    ∀ (l : List Oper) (acc : List Nat), (∃ pre, ops = pre ++ l ∧ pre.length = acc.length) → (∀ i, L i → ∀ j, (acc.getD i 0).testBit j = true → L j) → ∀ i, L i → ∀ j, ((masksOf l acc).getD i 0).testBit j = true → L j
  | [], _, _, h => h
  | o :: l, acc, ⟨pre, he, hp⟩, h => by
    unfold masksOf
    refine masksOf_bit ops hC l _ ⟨pre ++ [o], by rw [he]; simp, by simp [hp]⟩ ?_
    intro i hi j hj
    rcases Nat.lt_trichotomy i acc.length with h1 | h1 | h1
    · rw [List.getD_eq_getElem?_getD, List.getElem?_append_left h1, ← List.getD_eq_getElem?_getD] at hj
      exact h i hi j hj
    · subst h1
      rw [List.getD_eq_getElem?_getD, List.getElem?_append_right (Nat.le_refl _)] at hj
      simp only [Nat.sub_self, List.getElem?_cons_zero, Option.getD_some] at hj
      exact maskOf_bit h _ (fun e hm hb => hC acc.length o (by rw [he, List.getElem?_append_right (by omega)]; simp [hp]) hi e (by simpa using hm) hb) j hj
    · rw [List.getD_eq_getElem?_getD, List.getElem?_eq_none (by simp; omega)] at hj
      simp at hj
theorem masks_wait {ops : List Oper} {m : Nat} (hw : waitsAll ops m = true) {L : Nat → Prop} (hC : ∀ i o, ops[i]? = some o → L i → ∀ e ∈ o.after, Region.binds .any e = true → L e.on) {i : Nat} (hm : m ≤ i) (hi : i < ops.length) (h : L i) : ∀ j, j < i → L j := by
  intro j hj
  unfold waitsAll at hw
  have h1 := List.all_eq_true.1 hw i (by simpa using hi)
  have h2 : decide (i < m) = false := by simp; omega
  rw [h2, Bool.false_or] at h1
  have h3 := List.all_eq_true.1 h1 j (by simpa using hj)
  exact masksOf_bit ops hC ops [] ⟨[], by simp, rfl⟩ (by intro i _ j h; simp at h) i h j h3
section
variable {P : Program} {ops : Array Oper} {Q : Exit → Act → World → Prop}
/-- The last ones, in order. -/
def tailWp (P : Program) (ops : Array Oper) (Q : Exit → Act → World → Prop) : Nat → Nat → Act → World → Prop
  | 0, _, a, w => Q .normal a w
  | n + 1, k, a, w => wpOp P ops Q k (tailWp P ops Q n (k + 1)) a w
theorem tail_end {k : Nat} {a : Act} {w : World} (h : Q .normal a w) : tailWp P ops Q 0 k a w := h
/-- What is listed waits for none that is not. -/
def Closed (ops : Array Oper) (listed : Array Bool) : Prop := ∀ i o, ops.toList[i]? = some o → listed.getD i false = true → ∀ e ∈ o.after, Region.binds .any e = true → listed.getD e.on false = true
theorem Closed.step {listed : Array Bool} (h : Closed ops listed) {i : Nat} (hi : i ∈ Region.ready .any ops listed) : Closed ops (listed.setIfInBounds i true) := by
  obtain ⟨h0, o, ho, hall⟩ := mem_ready.1 hi
  intro k o' hk hl e he hb
  have hup : listed.getD e.on false = true → (listed.setIfInBounds i true).getD e.on false = true := by
    intro h1
    by_cases hei : e.on = i
    · rw [hei]
      have : i < listed.size := by
        rcases Nat.lt_or_ge i listed.size with h2 | h2
        · exact h2
        · rw [hei] at h1; simp [Nat.not_lt.2 h2] at h1
      simp [this]
    · rw [getD_set_ne _ (Ne.symm hei)]; exact h1
  by_cases hki : k = i
  · subst hki
    have : o' = o := by have h2 : ops.toList[k]? = some o := by simpa using ho
                        rw [hk] at h2; exact Option.some.inj h2
    subst this
    exact hup (hall e he hb)
  · rw [getD_set_ne _ (Ne.symm hki)] at hl
    exact hup (h k o' hk hl e he hb)
theorem tail_sound (m : Nat) (hdown : edgesDown ops.toList ops.size = true) (hw : waitsAll ops.toList m = true) : ∀ (fuel k : Nat) (listed : Array Bool) (a : Act) (W : World), listed.size = ops.size → k + fuel = ops.size → m ≤ k →
    (∀ j, j < ops.size → (listed.getD j false = true ↔ j < k)) → tailWp P ops Q fuel k a W → wpAny P .any ops Q fuel listed a W := by
  have hcl : ∀ (listed : Array Bool) (k : Nat), listed.size = ops.size → (∀ j, j < ops.size → (listed.getD j false = true ↔ j < k)) → k < ops.size → k ∈ Region.ready .any ops listed := by
    intro listed k hs hl hk
    rw [mem_ready]
    refine ⟨?_, ops[k], by simp [hk], ?_⟩
    · have h1 : ¬ listed.getD k false = true := by rw [hl k hk]; omega
      have h2 : k < listed.size := by omega
      simp [h2] at h1 ⊢
      exact h1
    · intro e he hb
      have h1 := edgesDown_spec hdown k ops[k] hk (by simp [hk]) e he hb
      exact (hl e.on (by omega)).2 h1
  intro fuel
  induction fuel with
  | zero =>
    intro k listed a W hs hk hm hl ht
    refine ⟨?_, ht⟩
    refine List.eq_nil_iff_forall_not_mem.2 fun j hj => ?_
    obtain ⟨h0, o, ho, _⟩ := mem_ready.1 hj
    have hlt : j < ops.size := (Array.getElem?_eq_some_iff.1 ho).1
    have h1 := (hl j hlt).2 (by omega)
    have h2 : j < listed.size := by omega
    simp [h2] at h0 h1
    rw [h1] at h0
    cases h0
  | succ fuel ih =>
    intro k listed a W hs hk hm hl ht
    have hkr := hcl listed k hs hl (by omega)
    refine ⟨fun hr => (by rw [hr] at hkr; cases hkr), fun i hi => ?_⟩
    have hC : Closed ops listed := by
      intro i o ho hli e he hb
      have hio : i < ops.size := by have := (List.getElem?_eq_some_iff.1 ho).1; simpa using this
      have h1 := edgesDown_spec hdown i o hio (by simpa using ho) e he hb
      have h2 := (hl i hio).1 hli
      exact (hl e.on (by omega)).2 (by omega)
    have hik : i = k := by
      obtain ⟨h0, o, ho, hall⟩ := mem_ready.1 hi
      have hlt : i < ops.size := (Array.getElem?_eq_some_iff.1 ho).1
      have hge : ¬ i < k := by
        intro h
        have h1 := (hl i hlt).2 h
        have h2 : i < listed.size := by omega
        simp [h2] at h0 h1
        rw [h1] at h0
        cases h0
      have hC2 := Closed.step hC hi
      have hil : i < listed.size := by omega
      have hsi : (listed.setIfInBounds i true).getD i false = true := by simp [hil]
      have h3 := masks_wait (L := fun j => (listed.setIfInBounds i true).getD j false = true) hw hC2 (i := i) (by omega) (by simpa using hlt) hsi
      rcases Nat.lt_or_ge k i with h4 | h4
      · exfalso
        have h5 := h3 k h4
        rw [getD_set_ne _ (by omega)] at h5
        have := (hl k (by omega)).1 h5
        omega
      · omega
    subst hik
    refine wpOp_mono ?_ ht
    intro a' W' h
    refine ih (i + 1) _ _ _ (by simpa using hs) (by omega) (by omega) ?_ h
    intro j hj
    by_cases hji : j = i
    · subst hji
      have : j < listed.size := by omega
      simp [this]
    · rw [getD_set_ne _ (Ne.symm hji), hl j hj]
      omega
theorem inv_soundS (A : (Nat → Value) → Act) (J : Nat → Value → World → Prop) (B : Nat) (w : World) (m : Nat) (hmn : m < ops.size)
    (hdown : edgesDown ops.toList ops.size = true) (hw : waitsAll ops.toList m = true)
    (hJ : ∀ i v W W', J i v W → Below W.heap.size W W' → J i v W')
    (hstep : ∀ i o, i < m → ops[i]? = some o → ∀ x W, Below B w W → B ≤ W.heap.size → (∀ e ∈ o.after, Region.binds .any e = true → J e.on (x e.on) W) →
      wpOp P ops Q i (fun a' W' => ∃ v, a' = A (upd x i v) ∧ Below W.heap.size W W' ∧ J i v W') (A x) W)
    (hfin : ∀ x W, Below B w W → B ≤ W.heap.size → (∀ i, i < m → J i (x i) W) → tailWp P ops Q (ops.size - m) m (A x) W) :
    ∀ (fuel : Nat) (listed : Array Bool) (x : Nat → Value) (W : World), listed.size = ops.size → (listed.toList.count true) + fuel = ops.size → Closed ops listed → (∀ i, m ≤ i → listed.getD i false = false) →
      Below B w W → B ≤ W.heap.size → (∀ j, listed.getD j false = true → J j (x j) W) → wpAny P .any ops Q fuel listed (A x) W := by
  intro fuel
  induction fuel with
  | zero =>
    intro listed x W hs hc hC hl hB hBW hJs
    exfalso
    have hle := List.count_eq_length.1 (show listed.toList.count true = listed.toList.length by rw [Array.length_toList]; omega)
    have h2 : m < listed.size := by omega
    have h3 := hle listed[m] (by simp)
    have h4 := hl m (Nat.le_refl _)
    simp [h2] at h4
    rw [h4] at h3
    cases h3
  | succ fuel ih =>
    intro listed x W hs hc hC hl hB hBW hJs
    have hne : Region.ready .any ops listed ≠ [] := by
      intro hr
      have full : ∀ n, n ≤ ops.size → ∀ j, j < n → listed.getD j false = true := by
        intro n
        induction n with
        | zero => intro _ j hj; omega
        | succ n ih =>
          intro hn j hj
          have ih' := ih (by omega)
          by_cases hjn : j < n
          · exact ih' j hjn
          · obtain rfl : j = n := by omega
            by_cases hl : listed.getD j false = true
            · exact hl
            · exfalso
              have hlt : j < listed.size := by omega
              have hopj : j < ops.size := by omega
              have hmem : j ∈ Region.ready .any ops listed := by
                rw [mem_ready]
                refine ⟨?_, ops[j], by simp [hopj], ?_⟩
                · simp [hlt] at hl ⊢
                  exact hl
                · intro e he hb
                  exact ih' _ (edgesDown_spec hdown j ops[j] hopj (by simp [hopj]) e he hb)
              rw [hr] at hmem
              cases hmem
      have h1 := full ops.size (Nat.le_refl _) m hmn
      rw [hl m (Nat.le_refl _)] at h1
      cases h1
    refine ⟨fun hr => absurd hr hne, fun i hi => ?_⟩
    obtain ⟨h0, o, ho, hall⟩ := mem_ready.1 hi
    have hlt : i < ops.size := (Array.getElem?_eq_some_iff.1 ho).1
    have hil : i < listed.size := by omega
    have hfalse : listed[i] = false := by simpa [hil] using h0
    have hcnt : (listed.setIfInBounds i true).toList.count true = listed.toList.count true + 1 := by
      simp only [Array.toList_setIfInBounds]
      rw [List.count_set (by simpa using hil)]
      simp [hfalse]
    have hC2 := Closed.step hC hi
    by_cases him : m ≤ i
    · have h3 := masks_wait (L := fun j => (listed.setIfInBounds i true).getD j false = true) hw hC2 (i := i) him (by simpa using hlt) (by simp [hil])
      have hallJ : ∀ j, j < i → listed.getD j false = true := by
        intro j hj
        have h4 := h3 j hj
        rwa [getD_set_ne _ (by omega)] at h4
      have hie : i = m := by
        rcases Nat.lt_or_ge m i with h4 | h4
        · exfalso
          have h5 := hallJ m h4
          rw [hl m (Nat.le_refl _)] at h5
          cases h5
        · omega
      subst hie
      have hf := hfin x W hB hBW fun j hj => hJs j (hallJ j hj)
      have hiff : ∀ j, j < ops.size → (listed.getD j false = true ↔ j < i) := by
        intro j hj
        constructor
        · intro h4
          rcases Nat.lt_or_ge j i with h5 | h5
          · exact h5
          · rw [hl j h5] at h4; cases h4
        · exact hallJ j
      have hcm : listed.toList.count true = i := by
        have e : listed.toList = List.replicate i true ++ List.replicate (ops.size - i) false := by
          apply List.ext_getElem?
          intro q
          by_cases hq : q < ops.size
          · have hql : q < listed.size := by omega
            have h6 := hiff q hq
            rw [Array.getElem?_toList]
            by_cases hqi : q < i
            · have h7 := h6.2 hqi
              simp [hql] at h7
              rw [List.getElem?_append_left (by simpa using hqi)]
              simp [hqi, hql, h7]
            · have h7 : ¬ listed.getD q false = true := fun h => hqi (h6.1 h)
              simp [hql] at h7
              rw [List.getElem?_append_right (by simp; omega)]
              rw [List.getElem?_replicate, if_pos (by simp; omega)]
              simp [hql, h7]
          · rw [List.getElem?_eq_none (by simp; omega), List.getElem?_eq_none (by simp; omega)]
        rw [e, List.count_append]
        simp [List.count_replicate]
      have hfu : fuel + 1 = ops.size - i := by omega
      have ht := tail_sound (P := P) (Q := Q) i hdown hw (fuel + 1) i listed (A x) W hs (by omega) (Nat.le_refl _) hiff (by rw [hfu]; exact hf)
      exact ht.2 i hi
    · refine wpOp_mono ?_ (hstep i o (by omega) ho x W hB hBW fun e he hb => hJs _ (hall e he hb))
      rintro a' W' ⟨v, rfl, hbel, hv⟩
      refine ih _ _ _ (by simpa using hs) (by omega) hC2 ?_ (below_then hB hBW hbel) (Nat.le_trans hBW hbel.size) fun j hj => ?_
      · intro j hj
        rw [getD_set_ne _ (by omega)]; exact hl j hj
      · by_cases hji : j = i
        · subst hji
          rw [upd_same]
          exact hv
        · rw [upd_ne _ _ _ hji]
          rw [getD_set_ne false (Ne.symm hji)] at hj
          exact hJ _ _ _ _ (hJs j hj) hbel
/-- THE REGION, with last operations that may do anything. -/
theorem region_tabS {id : Nat} {w : World} {a0 : Act} (m : Nat) (dl : List (Nat × Tmp)) (T : Nat → Fact) (hmn : decide (m < ops.size) = true) (hdl : dlOf 0 ops.toList = dl) (hm : P.follows .mixedOrders = true) (hdown : edgesDown ops.toList ops.size = true) (hwait : waitsAll ops.toList m = true)
    (hap : apartB (dl.map Prod.snd) = true) (hin : (dl.map Prod.snd).all (fun d => decide (d < a0.tmps.size)) = true)
    (hs : stepsAll (Owes P ops Q dl a0 T w) 0 (ops.toList.take m))
    (hd : ∀ a x W, Frm ops dl a0 a x → Below w.heap.size w W → (∀ i, i < m → (T i).p (x i) W) → tailWp P ops Q (ops.size - m) m a W) :
    (Code.region id ops true).wp P Q a0 w := by
  subst hdl
  have hlt : ∀ i d, (i, d) ∈ dlOf 0 ops.toList → d < a0.tmps.size := by
    intro i d h
    have := List.all_eq_true.1 hin d (List.mem_map.2 ⟨(i, d), h, rfl⟩)
    simpa using this
  have hfrm : ∀ x, Frm ops (dlOf 0 ops.toList) a0 (putAll a0 (dlOf 0 ops.toList) x) x := fun x =>
    ⟨fun i d h => putAll_in x a0 hap (dlOf_mem.2 ⟨Nat.zero_le _, by simpa using h⟩) (hlt i d (dlOf_mem.2 ⟨Nat.zero_le _, by simpa using h⟩)),
     fun t ht => putAll_out x _ _ t (by simpa using ht), rfl, putAll_defers x _ _, putAll_size x _ _⟩
  let x0 : Nat → Value := fun i => match (ops.toList[i]?).bind (·.dst) with | some d => a0.tmps.getD d undef | none => undef
  have h0 : putAll a0 (dlOf 0 ops.toList) x0 = a0 := putAll_self x0 _ _ fun i d h => by
    have hl := hlt i d h
    have h2 := (dlOf_mem.1 h).2
    rw [Nat.sub_zero] at h2
    simp only [x0, h2]
    simp [hl]
  suffices hsuf : (Code.region id ops true).wp P Q (putAll a0 (dlOf 0 ops.toList) x0) w by rw [h0] at hsuf; exact hsuf
  refine wp_region_any hm ?_
  have hz : (Array.replicate ops.size false).toList.count true = 0 := by simp [List.count_replicate]
  have hrep : ∀ i, (Array.replicate ops.size false).getD i false = false := by
    intro i
    by_cases h : i < ops.size <;> simp [h]
  refine inv_soundS (putAll a0 (dlOf 0 ops.toList)) (fun i => (T i).p) w.heap.size w m (by simpa using hmn) hdown hwait (fun i v W W' => (T i).st v W W') ?_ (fun x W hB _ hx => hd _ x W (hfrm x) hB hx) ops.size _ x0 _ (by simp) (by rw [hz]; omega) ?_ (fun i _ => hrep i) (below_dr (Below.refl _ _) 1) (Nat.le_refl _) ?_
  · intro i o hi ho x W hB _ hE
    have h1 := stepsAll_spec hs i o (by rw [List.getElem?_take]; simp [hi, ho])
    rw [Nat.zero_add] at h1
    refine h1 _ x W (hfrm x) hB hE _ fun v W' hb hp => ⟨v, ?_, hb, hp⟩
    cases hod : o.dst with
    | none =>
      rw [putAll_upd_out]
      · rfl
      · intro d hd'
        have h2 := (dlOf_mem.1 hd').2
        rw [Nat.sub_zero, show ops.toList[i]? = some o by simpa using ho] at h2
        simp [hod] at h2
    | some d =>
      exact putAll_put x v a0 hap (dlOf_mem.2 ⟨Nat.zero_le _, by rw [Nat.sub_zero, show ops.toList[i]? = some o by simpa using ho]; simpa using hod⟩)
  · intro i o _ h
    rw [hrep i] at h
    cases h
  · intro j hj
    rw [hrep j] at hj
    cases hj
theorem wpOp_fin {i : Nat} {o : Oper} {a : Act} {W W' : World} {K : Act → World → Prop} (ho : ops[i]? = some o) (hw : Region.wanted o (yielded ops a.tmps) = true) (hd : o.dst = none) (hrun : (execOp a.eval o).run P W = .ok .skip W')
    (h : K a W') : wpOp P ops Q i K a W := wpOp_run ho hw (by unfold Oper.wp; rw [hrun]; show K (a.put o.dst undef) W'; rw [hd]; exact h)
theorem wpOp_mid {i : Nat} {o : Oper} {a : Act} {W : World} {v : Value} {K : Act → World → Prop} (ho : ops[i]? = some o) (hw : Region.wanted o (yielded ops a.tmps) = true) (hrun : (execOp a.eval o).run P W = .ok (.value v) W)
    (h : K (a.put o.dst v) W) : wpOp P ops Q i K a W := wpOp_run ho hw (by unfold Oper.wp; rw [hrun]; exact h)
theorem mid_other (a b : Act) (d t : Nat) (v : Value) (h : b = a.put (some d) v) (hne : t ≠ d) : b.tmps[t]?.getD undef = a.tmps[t]?.getD undef := by
  rw [h]
  simp [Act.put, Ne.symm hne]
theorem mid_same (a b : Act) (d : Nat) (v : Value) (h : b = a.put (some d) v) (hs : d < a.tmps.size) : b.tmps[d]?.getD undef = v := by
  rw [h]
  simp [Act.put, hs]
theorem mid_size (a : Act) (d : Nat) (v : Value) : (a.put (some d) v).tmps.size = a.tmps.size := by simp [Act.put]
end
end Go.Proofs.YtabdipfpfbdghaaGreat
