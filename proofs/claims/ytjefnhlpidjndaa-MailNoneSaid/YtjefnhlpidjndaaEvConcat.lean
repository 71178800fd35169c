/- slices.Clone, slices.Grow and slices.Concat of events. -/
import Derived.Test.YtjefnhlpidjndaaEvSame
import Derived.Test.YtjefnhlpidjndaaChg
import Derived.Laws.AppendOwn
import Derived.Lib.SliceRun
namespace Go.Proofs.Ytjefnhlpidjndaa
open Go.RowKit
theorem run_append_zeros_nil {P : Program} {w : World} (t tn ty e : TypeId) (i : TypeInfo) (z : Value) (size bytes : Nat) (k kn : IntKind) (ht : P.underlying t = some (.slice e)) (htn : P.underlying tn = some (.int kn)) (hi : P.info? e = some i) (hz : i.zero = some z)
    (hsize : i.size = size) (hby : i.bytes = bytes) (hzs : z.cells.size = size) (hs0 : 0 < size) (hb0 : 0 < bytes) (m : Nat) (hm0 : 0 < m) (h63 : m ≤ maxLen) (hbytes : m * bytes ≤ 140737488355328) :
    ∃ v' w', (Builtin.append_ #[t, tn] ty #[.slice none 0 0, .int k m]).run P w = .ok v' w' ∧ w'.ownsRow w.heap.size e size v' m (Builtin.zeroCells z.cells m).toList ∧ w.grownBy w' none ∧ ∃ cap, v' = .slice (some ⟨w.heap.size, 0, none⟩) m cap := by
  subst hby
  subst hsize
  have hnn : m ≤ 140737488355328 := Nat.le_trans (Nat.le_mul_of_pos_right _ hb0) hbytes
  have hw : IntKind.i64.wrap (m : Int) = m := by rw [IntKind.wrap_i64]; omega
  have hneg : ¬ ((m : Int) < 0) := by omega
  have h48i : ¬ (281474976710656 < (m : Int) * (i.bytes : Int)) := by rw [← Int.natCast_mul]; omega
  have hm : m ≠ 0 := by omega
  have hms : m * i.size ≠ 0 := Nat.mul_ne_zero hm (by omega)
  have hge := grownCap_ge w m 0 e
  have hcm : grownCap w m 0 e ≤ maxLen := grownCap_le_maxLen w m 0 e h63
  have hsz : (Builtin.zeroCells z.cells m ++ Builtin.zeroCells z.cells (grownCap w m 0 e - m)).size = grownCap w m 0 e * i.size := by
    rw [Array.size_append, size_zeroCells, size_zeroCells, hzs, ← Nat.add_mul]
    congr 1
    omega
  have h48' : ¬ (281474976710656 < Builtin.nextslicecap m 0 * i.bytes) := by rw [nextslicecap_zero hm0]; omega
  have h63' : ¬ (9223372036854775807 < (m : Int)) := by unfold maxLen at h63; omega
  refine ⟨.slice (some ⟨w.heap.size, 0, none⟩) m (grownCap w m 0 e), w.drew.alloc (.cells (Builtin.zeroCells z.cells m ++ Builtin.zeroCells z.cells (grownCap w m 0 e - m)) e), ?_, ⟨?_, .inr ⟨w.heap.size, _, _, rfl, Nat.le_refl _, heap_alloc_new w.drew _, hge, hcm, hsz, ?_⟩⟩, ⟨rfl, rfl, rfl, by simp, fun k hk _ => heap_alloc_old w.drew _ hk⟩, _, rfl⟩
  · have hq : (Question.appendCap m 0 e).forced = false := rfl
    simp [Builtin.append_, run_underlying ht, run_underlying htn, sizeOf, typeInfo, zeroValue, hi, hz, asInt, asIntOf, hw, hneg, h48i, hm, hms, h63', h48', Builtin.firstCells, Question.forced, newRow, grownCap]
  · rw [Array.length_toList, size_zeroCells, hzs]
  · rw [Array.toList_append]
    have hl : (Builtin.zeroCells z.cells m).toList.length = m * i.size := by rw [Array.length_toList, size_zeroCells, hzs]
    rw [← hl]
    exact List.take_left
section
variable {P : Program} {ops : Array Oper} {rest : List Oper} {o : Oper} {a : Act} {Q : Exit → Act → World → Prop}
/-- append(nil, make([]T, m)...). -/
theorem apzn {W : World} (hgd : o.guard = none) (s x : Operand) (t tn e : TypeId) (z : Value) (size bytes : Nat) (kn k : IntKind)
    (ho : o.op = .call { callee := .builtin .append, args := #[s, x], argTypes := #[t, tn] })
    (ht : P.underlying t = some (.slice e)) (htn : P.underlying tn = some (.int kn)) (hinfo : (P.info? e).map (fun i => (i.zero, i.size, i.bytes)) = some (some z, size, bytes)) (hz : z.cells.size = size) (hs0 : 0 < size) (hb0 : 0 < bytes)
    (m : Nat) (hs : a.eval s = .slice none 0 0) (hx : a.eval x = .int k m) (hm0 : 0 < m) (hl : m * bytes ≤ 140737488355328)
    (h : ∀ cap w1, w1.ownsRow W.heap.size e size (.slice (some ⟨W.heap.size, 0, none⟩) m cap) m (Builtin.zeroCells z.cells m).toList → Below W.heap.size W w1 → wpList P ops Q rest (a.put o.dst (.slice (some ⟨W.heap.size, 0, none⟩) m cap)) w1) :
    wpList P ops Q (o :: rest) a W := by
  obtain ⟨i0, hi, hzz⟩ := Option.map_eq_some_iff.1 hinfo
  simp only [Prod.mk.injEq] at hzz
  obtain ⟨hz0, hzs, hz2⟩ := hzz
  have hlen : m ≤ 140737488355328 := Nat.le_trans (Nat.le_mul_of_pos_right _ hb0) hl
  obtain ⟨v1, w1, hr, hown, hg, cap, rfl⟩ := run_append_zeros_nil (P := P) (w := W) t tn o.type e i0 z size bytes k kn ht htn hi hz0 hzs hz2 hz hs0 hb0 m hm0 (by simp only [maxLen]; omega) hl
  refine wpList_plain hgd fun K hK => ?_
  unfold Oper.wp execOp
  simp only [ho, resolve, invoke, builtin, Sem.run_bind, Sem.run_pure, Result.andThen_ok, List.map_toArray, List.map_cons, List.map_nil, hs, hx, hr]
  exact hK _ _ (h cap w1 hown ((Below.refl W.heap.size W).grown hg (Nat.le_refl _) (fun k hk => by cases hk)))
end
theorem own_none_of {w : World} {base g n cap sz : Nat} {e : TypeId} {xs : List Value} (h : w.ownsRow base e sz (.slice (some ⟨g, 0, none⟩) n cap) n xs) : w.ownsRow base e sz (.slice (some ⟨g, 0, none⟩) 0 cap) 0 [] := by
  refine ⟨by simp, ?_⟩
  rcases h.2 with ⟨h1, _⟩ | ⟨g', cap', cur, hv, hb, hg, hnc, hcm, hcs, ht⟩
  · simp at h1
  · simp only [Value.slice.injEq, Option.some.injEq, Addr.mk.injEq, and_true, true_and] at hv
    obtain ⟨rfl, rfl⟩ := hv
    exact .inr ⟨g, cap, cur, rfl, hb, hg, Nat.zero_le _, hcm, hcs, by simp⟩
set_option maxRecDepth 100000 in
set_option maxHeartbeats 4000000 in
theorem growEv (m : Nat) (hm : m ≤ 100000) (w : World) : Calls Try.prog 31 #[.slice none 0 0, .int .i64 m] w fun e w' => ∃ v, e = .returned v ∧ w'.ownsRow w.heap.size 31 15 v 0 [] ∧ Below w.heap.size w w' := by
  by_cases h0 : m = 0
  · subst h0
    go_enter Try.func31, Try.ntmps31
    go_wp2
    go_ret
    exact ⟨_, rfl, World.ownsRow_nil _ _ _ _, Below.refl _ _⟩
  · have hp : (0 : Int) < m := by omega
    have hp2 : 0 < m := by omega
    have hml : m * 120 ≤ 140737488355328 := by omega
    clear h0
    go_enter Try.func31, Try.ntmps31
    go_wp2_with (at_builtin; refine apzn (by rfl) _ _ 22 3 31 _ 15 120 .i64 .i64 (by rfl) Try.underlying22 Try.underlying3 info_ev rfl (by decide) (by decide) m (by rfl) (by rfl) hp2 hml ?_; intro cap w1 hown hb1)
    go_ret
    exact ⟨_, rfl, own_none_of hown, hb1⟩
set_option maxHeartbeats 1000000 in
theorem cloneEv (A : Option Addr) (n c : Nat) (l : List Ev) (w : World) (hr : Rds w 15 A n c (evs l)) (hm : n ≤ 100000) :
    Calls Try.prog 20 #[.slice A n c] w fun e w' => (∃ v, e = .returned v ∧ w'.ownsRow w.heap.size 31 15 v n (evs l)) ∧ Below w.heap.size w w' := by
  have q22 : ∀ (w : World) (a : Option Addr) (n c n' c' : Nat), (binOp .eql 22 (.slice a n c) (.slice none n' c')).run Try.prog w = .ok (.bool a.isNone) w := fun w a n c n' c' => Lib.run_eql_slice_nil w _ _ a n c n' c' Try.underlying22
  cases A with
  | none =>
    obtain ⟨rfl, rfl, h0⟩ := hr.nil_n
    go_enter Try.func20, Try.ntmps20
    go_wp2
    go_ret
    refine ⟨⟨_, rfl, ?_⟩, Below.refl _ _⟩
    rw [h0]
    exact World.ownsRow_nil _ _ _ _
  | some ad =>
    have hal : Below w.heap.size w (w.alloc (.cells #[] 31)) := below_al (Below.refl _ _) _
    have hown : (w.alloc (.cells #[] 31)).ownsRow w.heap.size 31 15 (.slice (some ⟨w.heap.size, 0, none⟩) 0 0) 0 [] := World.ownsRow_lit w #[] 0 (Nat.le_refl _) (Nat.zero_le _) rfl
    go_enter Try.func20, Try.ntmps20
    go_wp2_with (at_builtin; refine apn (w0 := w) w.heap.size rfl _ _ 22 31 _ 15 120 (by rfl) Try.underlying22 info_ev rfl (by decide) (by decide) _ 0 [] (some ad) n c _ (by rfl) (by rfl) (hr.below hal) (evs_one l) hown hal (by simp) (by omega) ?_; intro v1 w1 h1 h2 _ _)
    go_ret
    refine ⟨⟨_, rfl, ?_⟩, h2⟩
    simpa using h1
set_option maxRecDepth 100000 in
set_option maxHeartbeats 8000000 in
theorem concatEv (g : Nat) (A : Option Addr) (n c : Nat) (xs : List Ev) (B : Option Addr) (m d : Nat) (ys : List Ev) (w : World) (h0 : w.cell? ⟨g, 0, none⟩ = some (.slice A n c)) (h1 : w.cell? ⟨g, 1, none⟩ = some (.slice B m d)) (hr : Rds w 15 A n c (evs xs)) (hr2 : Rds w 15 B m d (evs ys)) (hn : n ≤ 10000) (hm : m ≤ 10000) :
    Calls Try.prog 21 #[.slice (some ⟨g, 0, none⟩) 2 2] w fun e w' => ∃ v, e = .returned v ∧ w'.ownsRow w.heap.size 31 15 v (n + m) (evs (xs ++ ys)) ∧ Below w.heap.size w w' := by
  have HX : Hid (xs.length = n) := evs_len hr
  have HY : Hid (ys.length = m) := evs_len hr2
  have hg := fun W => growEv (n + m) (by omega) W
  simp only [Int.natCast_add] at hg
  have HG := Lib.hid hg
  clear hg
  go_enter Try.func21, Try.ntmps21
  go_wp2
  go_loopw [3, 11] (fun sv iv wr => wr = w ∧ ((iv = .int .i64 0 ∧ sv = .int .i64 0) ∨ (iv = .int .i64 1 ∧ sv = .int .i64 n) ∨ (iv = .int .i64 2 ∧ sv = .int .i64 ((n : Int) + m)))) (fun _ iv _ => 2 - (intOf iv).toNat)
  case atStart => exact ⟨rfl, .inl ⟨rfl, rfl⟩⟩
  case round =>
    obtain ⟨rfl, hc⟩ := hrel
    rcases hc with ⟨rfl, rfl⟩ | ⟨rfl, rfl⟩ | ⟨rfl, rfl⟩
    · go_wp2
      exact ⟨⟨trivial, .inr (.inl ⟨rfl, rfl⟩)⟩, by simp [intOf]⟩
    · go_wp2
      exact ⟨⟨trivial, .inr (.inr ⟨rfl, rfl⟩)⟩, by simp [intOf]⟩
    · obtain ⟨W1, rfl⟩ : ∃ x, x = wr := ⟨_, rfl⟩
      go_wp2_with (go_at_call 31; (with_reducible refine (HG.out _).mono ?_); rintro e w1 ⟨v1, rfl, hown1, hb1⟩)
      go_loopw [6, 27] (fun v iv wr => ∃ zs : List Ev, ((iv = .int .i64 0 ∧ zs = []) ∨ (iv = .int .i64 1 ∧ zs = xs) ∨ (iv = .int .i64 2 ∧ zs = xs ++ ys)) ∧ wr.ownsRow W1.heap.size 31 15 v zs.length (evs zs) ∧ Below W1.heap.size W1 wr) (fun _ iv _ => 2 - (intOf iv).toNat)
      case atStart => exact ⟨[], .inl ⟨rfl, rfl⟩, hown1, hb1⟩
      case round =>
        obtain ⟨zs, hz, hown, hb⟩ := hrel
        have k0 := cell_below hb h0
        have k1 := cell_below hb h1
        rcases hz with ⟨rfl, rfl⟩ | ⟨rfl, rfl⟩ | ⟨rfl, rfl⟩
        · go_wp2_with (at_builtin; refine apn (w0 := W1) W1.heap.size rfl _ _ 22 31 _ 15 120 (by rfl) Try.underlying22 info_ev rfl (by decide) (by decide) _ 0 [] A n c _ (by rfl) (by rfl) (hr.below hb) (evs_one xs) hown hb hb.size (by omega) ?_; intro v2 w2 h2 hb2 _ _)
          go_roundw
          case rel => exact ⟨xs, .inr (.inl ⟨rfl, rfl⟩), by rw [HX.out]; simpa using h2, hb2⟩
          case measure => simp [intOf]
        · have hxl : zs.length ≤ 10000 := by rw [HX.out]; exact hn
          go_wp2_with (at_builtin; refine apn (w0 := W1) W1.heap.size rfl _ _ 22 31 _ 15 120 (by rfl) Try.underlying22 info_ev rfl (by decide) (by decide) _ zs.length (evs zs) B m d _ (by rfl) (by rfl) (hr2.below hb) (evs_one ys) hown hb hb.size (by omega) ?_; intro v2 w2 h2 hb2 _ _)
          go_roundw
          case rel => exact ⟨zs ++ ys, .inr (.inr ⟨rfl, rfl⟩), by rw [List.length_append, HY.out, evs_append]; exact h2, hb2⟩
          case measure => simp [intOf]
        · rw [List.length_append, HX.out, HY.out] at hown
          go_wp2
          go_ret
          exact ⟨_, rfl, hown, hb⟩
end Go.Proofs.Ytjefnhlpidjndaa
