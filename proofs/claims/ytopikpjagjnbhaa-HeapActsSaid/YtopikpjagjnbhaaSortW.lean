/- The sort's world: a row of ids, compared by a heap's order, bound to the heap; the insertion sort. -/
import Derived.Test.YtopikpjagjnbhaaSortPlain
import Derived.Test.YtopikpjagjnbhaaHeapUse
import Derived.Sort.AssemblyPlain
import Derived.Deep.QuietTactic
import Derived.Deep.LoopGhost
import Derived.BigRegion
namespace Go.Proofs.Ytopikpjagjnbhaa
open Go.RowKit
/-- A world that stands behind w: what was there is as it was. -/
structure Behind (w : World) where
  W : World
  hb : Below w.heap.size w W
instance (w : World) : Inhabited (Behind w) := ⟨⟨w, Below.refl _ _⟩⟩
/-- A region that draws, whose operations only read, and whose callees leave what was there. -/
theorem wp_behind {P : Program} {id : Nat} {Q : Exit → Act → World → Prop} {a : Act} {w : World} {l : List Oper} (hm : P.follows .mixedOrders = true) (hB : Region.lexB .any l.toArray = true)
    (h : wpQuiet P l.toArray (fun w' => ∃ p : Behind w, w' = p.W) (fun a' => ∀ w', (∃ p : Behind w, w' = p.W) → Q .normal a' w') l a) : (Code.region id l.toArray true).wp P Q a w :=
  wp_region_quiet (C := fun w' => ∃ p : Behind w, w' = p.W) hm hB ⟨⟨w.drew, below_dr (Below.refl _ _) 1⟩, rfl⟩ (by simpa using h)
structure Sq (w0 W : World) (hb gk kb n ck : Nat) (ks : List Int) (g c m : Nat) (l : List Nat) : Prop where
  ro : W.ownsRow w0.heap.size 3 1 (.slice (some ⟨g, 0, none⟩) m c) m (nums .i64 (zs l))
  kw : Kw W hb gk kb n ck ks
  ne : g ≠ hb ∧ g ≠ gk
  lt : ∀ x ∈ l, x < n
  bl : Below w0.heap.size w0 W
variable {w0 W : World} {hb gk kb n ck g c m : Nat} {ks : List Int} {l : List Nat}
theorem Sq.len (S : Sq w0 W hb gk kb n ck ks g c m l) : l.length = m := by
  have := S.ro.1
  rw [nums_length, zs_length] at this
  omega
theorem Sq.below {W' : World} (S : Sq w0 W hb gk kb n ck ks g c m l) (h : Below W.heap.size W W') : Sq w0 W' hb gk kb n ck ks g c m l :=
  ⟨own_below S.ro h, S.kw.below h, S.ne, S.lt, below_then S.bl S.bl.size h⟩
theorem Sq.at_ (S : Sq w0 W hb gk kb n ck ks g c m l) {i : Nat} (hi : i < m) : W.cell? ⟨g, i, none⟩ = some (.int .i64 (l.getD i 0 : Nat)) ∧ W.frozen? ⟨g, i, none⟩ = false ∧ l.getD i 0 < n := by
  have hl := S.len
  obtain ⟨h1, h2, _⟩ := rowGet S.ro hi
  rw [zs_getD _ _ (by omega)] at h1
  exact ⟨h1, h2, S.lt _ (List.mem_of_getElem? (getD_getH l i (by omega)))⟩
theorem Sq.set (S : Sq w0 W hb gk kb n ck ks g c m l) {i x : Nat} (hi : i < m) (hx : x < n) : Sq w0 (W.setCell ⟨g, i, none⟩ (.int .i64 x)) hb gk kb n ck ks g c m (l.set i x) := by
  have c1 : Chg (fun k => k = g) W (W.setCell ⟨g, i, none⟩ (.int .i64 x)) := (Chg.refl _ _).setCell _ _ _ rfl
  have h1 := (rowGet S.ro hi).2.2 (x : Int)
  rw [zs_set] at h1
  refine ⟨h1, S.kw.keep c1 (fun e => S.ne.1 e.symm) (fun e => S.ne.2 e.symm), S.ne, fun y hy => ?_, c1.toBelow S.bl S.bl.size (fun k e => by rw [e]; exact own_base S.ro g rfl)⟩
  rcases List.mem_or_eq_of_mem_set hy with h | h
  · exact S.lt y h
  · rw [h]; exact hx
theorem swp_list (d : Array Nat) (i j : Nat) : (Sort.swp d i j).toList = swapL d.toList i j := by
  unfold Sort.swp swapL
  simp [Array.getElem!_eq_getD, Array.getD_eq_getD_getElem?, List.getD_eq_getElem?_getD]
/-- The row of an array of ids. -/
abbrev Sa (w0 W : World) (hb gk kb n ck : Nat) (ks : List Int) (g c m : Nat) (d : Array Nat) : Prop := Sq w0 W hb gk kb n ck ks g c m d.toList
variable {d : Array Nat}
theorem Sq.size (S : Sa w0 W hb gk kb n ck ks g c m d) : d.size = m := by simpa using S.len
theorem Sq.at' (S : Sa w0 W hb gk kb n ck ks g c m d) {i : Nat} (hi : i < m) : W.cell? ⟨g, i, none⟩ = some (.int .i64 (d[i]! : Nat)) ∧ W.frozen? ⟨g, i, none⟩ = false ∧ d[i]! < n := by
  have e : d[i]! = d.toList.getD i 0 := by simp [Array.getElem!_eq_getD, Array.getD_eq_getD_getElem?, List.getD_eq_getElem?_getD]
  rw [e]
  exact S.at_ hi
theorem Sq.swap (S : Sa w0 W hb gk kb n ck ks g c m d) {i j : Nat} (hi : i < m) (hj : j < m) : Sa w0 ((W.setCell ⟨g, i, none⟩ (.int .i64 (d[j]! : Nat))).setCell ⟨g, j, none⟩ (.int .i64 (d[i]! : Nat))).drew hb gk kb n ck ks g c m (Sort.swp d i j) := by
  have h1 := S.set hi (S.at' hj).2.2
  have h2 := (h1.set hj (S.at' hi).2.2).below (below_dr (Below.refl _ _) 1)
  unfold Sa
  rw [swp_list]
  unfold swapL
  have e : ∀ i, d.toList.getD i 0 = d[i]! := fun i => by simp [Array.getElem!_eq_getD, Array.getD_eq_getD_getElem?, List.getD_eq_getElem?_getD]
  rw [e, e]
  exact h2
/-- Behind an exchange's first store the second place still holds something. -/
theorem Sq.two (S : Sa w0 W hb gk kb n ck ks g c m d) {i j : Nat} (hi : i < m) (hj : j < m) : ∃ u, (W.setCell ⟨g, i, none⟩ (.int .i64 (d[j]! : Nat))).cell? ⟨g, j, none⟩ = some u := by
  have h1 := S.set hi (S.at' hj).2.2
  exact ⟨_, (h1.at_ hj).1⟩
/-- The comparison, in each world behind. -/
theorem Sq.cmp (S : Sa w0 W hb gk kb n ck ks g c m d) {x y : Nat} (hx : x < n) (hy : y < n) (p : Behind W) : Calls Try.prog 34 #[.pointer (some ⟨hb, 0, none⟩), .int .i64 x, .int .i64 y] p.W fun e W' => e = .returned (.int .i64 (ordV ks x y)) ∧ ∃ q : Behind W, W' = q.W := by
  have S' := S.below p.hb
  refine (horder hb gk n ck kb ks x y p.W S'.kw.kb S'.kw.ko hx hy).mono ?_
  rintro e w' ⟨h1, h2⟩
  exact ⟨h1, ⟨w', below_tr p.hb h2⟩, rfl⟩
theorem Sq.cell (S : Sa w0 W hb gk kb n ck ks g c m d) {i : Nat} (hi : i < m) (p : Behind W) : p.W.cell? ⟨g, i, none⟩ = some (.int .i64 (d[i]! : Nat)) := cell_below p.hb (S.at' hi).1
/-- The order, bound to its heap. -/
abbrev ordF (hb : Nat) : Value := .func (.func 34) #[.pointer (some ⟨hb, 0, none⟩)] #[]
/-- One is below the other. -/
def ltF (ks : List Int) (x y : Nat) : Bool := decide (ordV ks x y < 0)
theorem insIn_go (lt : Nat → Nat → Bool) (a j : Nat) (d : Array Nat) (hj : a < j + 1) (hl : lt d[j + 1]! d[j]! = true) : Sort.insInner lt a (j + 1) d = Sort.insInner lt a j (Sort.swp d (j + 1) j) := by
  rw [Sort.insInner, if_pos (by simp [hj, hl])]
theorem insIn_no (lt : Nat → Nat → Bool) (a j : Nat) (d : Array Nat) (hl : lt d[j + 1]! d[j]! = false) : Sort.insInner lt a (j + 1) d = d := by
  rw [Sort.insInner, if_neg (by simp [hl])]
theorem insIn_end (lt : Nat → Nat → Bool) (a j : Nat) (d : Array Nat) (hj : j ≤ a) : Sort.insInner lt a j d = d := by
  cases j with
  | zero => rw [Sort.insInner]
  | succ k => rw [Sort.insInner, if_neg (by simp; omega)]
theorem insOut_go (lt : Nat → Nat → Bool) (a b i : Nat) (d : Array Nat) (h : i < b) : Sort.insOuter lt a b i d = Sort.insOuter lt a b (i + 1) (Sort.insInner lt a i d) := by rw [Sort.insOuter, if_pos h]
theorem insOut_end (lt : Nat → Nat → Bool) (a b i : Nat) (d : Array Nat) (h : ¬ i < b) : Sort.insOuter lt a b i d = d := by rw [Sort.insOuter, if_neg h]
set_option maxRecDepth 100000 in
set_option maxHeartbeats 8000000 in
/-- The insertion sort. -/
theorem sinsert (S : Sa w0 W hb gk kb n ck ks g c m d) (a b : Nat) (hab : a ≤ b) (hbm : b ≤ m) (hm : m ≤ 4096) :
    Calls Try.prog 64 #[.slice (some ⟨g, 0, none⟩) m c, .int .i64 a, .int .i64 b, ordF hb] W fun e W' => e = .returned (.tuple #[]) ∧ Sa w0 W' hb gk kb n ck ks g c m (Sort.insertionSort (ltF ks) d a b) := by
  have HS := Lib.hid S
  clear S
  go_enter Try.func64, Try.ntmps64
  go_wp2
  go_loopw [8] (fun i wr => ∃ (k : Nat) (d1 : Array Nat), a + 1 ≤ k ∧ (k ≤ b ∨ k = a + 1) ∧ i = .int .i64 k ∧ Hid (Sa w0 wr hb gk kb n ck ks g c m d1) ∧ Hid (Sort.insOuter (ltF ks) a b k d1 = Sort.insertionSort (ltF ks) d a b)) (fun i _ => b + 1 - (intOf i).toNat)
  case atStart => exact ⟨a + 1, d, Nat.le_refl _, .inr rfl, by go_num, (show Hid _ from HS.out), (show Hid _ from rfl)⟩
  case round =>
    obtain ⟨k, d1, hk1, hk2, rfl, HS1, HP1⟩ := hrel
    by_cases hkb : k < b
    · have hkb' : (k : Int) < (b : Int) := by omega
      have HP2 := Lib.hid ((insOut_go (ltF ks) a b k d1 hkb).symm.trans HP1.out)
      clear HP1
      generalize hG : Sort.insInner (ltF ks) a k d1 = G at HP2
      have HG := Lib.hid hG
      clear hG
      obtain ⟨W1, rfl⟩ : ∃ x, x = wr := ⟨_, rfl⟩
      go_wp2
      go_loopw [9] (fun i wr => ∃ (j : Nat) (d2 : Array Nat), a ≤ j ∧ j ≤ k ∧ i = .int .i64 j ∧ Hid (Sa w0 wr hb gk kb n ck ks g c m d2) ∧ Hid (Sort.insInner (ltF ks) a j d2 = G)) (fun i _ => (intOf i).toNat)
      case atStart => exact ⟨k, d1, by omega, Nat.le_refl _, rfl, (show Hid _ from HS1.out), (show Hid _ from HG.out)⟩
      case round =>
        obtain ⟨j, d2, hj1, hj2, rfl, HS2, HI2⟩ := hrel
        by_cases hja : a < j
        · obtain ⟨j, rfl⟩ : ∃ i, j = i + 1 := ⟨j - 1, by omega⟩
          have hja' : (a : Int) < (j : Int) + 1 := by omega
          have b1 : (0 : Int) ≤ (j : Int) + 1 := by omega
          have b2 : (j : Int) + 1 < (m : Int) := by omega
          have b3 : (j : Int) < (m : Int) := by omega
          have b4 : IntKind.i64.wrap (j : Int) = j := by rw [IntKind.wrap_i64] <;> omega
          have q1 := HS2.out.cell (show j + 1 < m by omega)
          have q2 := HS2.out.cell (show j < m by omega)
          have q3 := fun p => HS2.out.cmp (HS2.out.at' (show j + 1 < m by omega)).2.2 (HS2.out.at' (show j < m by omega)).2.2 p
          obtain ⟨x, hx⟩ : ∃ x, x = d2[j + 1]! := ⟨_, rfl⟩
          obtain ⟨y, hy⟩ : ∃ x, x = d2[j]! := ⟨_, rfl⟩
          rw [← hx] at q1 q3
          rw [← hy] at q2 q3
          cases hv : ltF ks d2[j + 1]! d2[j]! with
          | true =>
            have hv1 : ordV ks x y < 0 := by rw [hx, hy]; exact of_decide_eq_true hv
            generalize ordV ks x y = ov at hv1 q3
            have HG2 := Lib.hid (insIn_go (ltF ks) a j d2 hja hv)
            have HX := Lib.hid hx
            have HY := Lib.hid hy
            clear hx hy hv
            go_wp2_with fail
            refine wp_behind (by kernel_rfl) (by kernel_rfl) ?_
            repeat (quiet_step (exact q3 _))
            refine wpQuiet_nil ?_
            rintro W2 ⟨⟨_, hb2⟩, rfl⟩
            clear q1 q2 q3
            obtain ⟨c1, f1, _⟩ := (HS2.out.below hb2).at' (show j + 1 < m by omega)
            obtain ⟨c2, f2, _⟩ := (HS2.out.below hb2).at' (show j < m by omega)
            obtain ⟨u3, c3⟩ := (HS2.out.below hb2).two (show j + 1 < m by omega) (show j < m by omega)
            have HS3 := Lib.hid ((HS2.out.below hb2).swap (show j + 1 < m by omega) (show j < m by omega))
            rw [← HX.out] at c1 HS3
            rw [← HY.out] at c2 c3 HS3
            go_wp2_with fail
            go_big_region
            clear c1 c2 c3 f1 f2
            generalize ((W2.setCell ⟨g, j + 1, none⟩ (.int .i64 y)).setCell ⟨g, j, none⟩ (.int .i64 x)).drew = W3 at HS3 ⊢
            go_wp2
            go_roundw
            case measure => simp only [intOf]; omega
            case rel => exact ⟨j, Sort.swp d2 (j + 1) j, by omega, by omega, rfl, HS3, (show Hid _ from HG2.out.symm.trans HI2.out)⟩
          | false =>
            have hv1 : ¬ ordV ks x y < 0 := by rw [hx, hy]; exact of_decide_eq_false hv
            generalize ordV ks x y = ov at hv1 q3
            have HG2 := Lib.hid ((insIn_no (ltF ks) a j d2 hv).symm.trans HI2.out)
            clear hx hy hv
            go_wp2_with fail
            refine wp_behind (by kernel_rfl) (by kernel_rfl) ?_
            repeat (quiet_step (exact q3 _))
            refine wpQuiet_nil ?_
            rintro W2 ⟨⟨_, hb2⟩, rfl⟩
            clear q1 q2 q3
            go_wp2
            go_roundw
            case measure => simp only [intOf]; omega
            case rel => exact ⟨k + 1, d2, by omega, by omega, by go_num, (show Hid _ from HS2.out.below hb2), (show Hid _ from by rw [HG2.out]; exact HP2.out)⟩
        · have hja' : ¬ (a : Int) < (j : Int) := by omega
          have HG2 := Lib.hid ((insIn_end (ltF ks) a j d2 (by omega)).symm.trans HI2.out)
          have hd : decide ((j : Int) > (a : Int)) = false := decide_eq_false hja'
          go_wp2_with fail
          go_big_region
          have hb2 := below_dr (Below.refl wr.heap.size wr) 1
          change Below _ _ wr.drew at hb2
          generalize wr.drew = W2 at hb2 ⊢
          go_wp2
          go_roundw
          case measure => simp only [intOf]; omega
          case rel => exact ⟨k + 1, d2, by omega, by omega, by go_num, (show Hid _ from HS2.out.below hb2), (show Hid _ from by rw [HG2.out]; exact HP2.out)⟩
    · have hkb' : ¬ (k : Int) < (b : Int) := by omega
      go_wp2
      go_end0
      exact ⟨rfl, by rw [← HP1.out, insOut_end _ _ _ _ _ hkb]; exact HS1.out⟩
end Go.Proofs.Ytopikpjagjnbhaa
