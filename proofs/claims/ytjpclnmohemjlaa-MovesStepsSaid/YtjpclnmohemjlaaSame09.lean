/- plain, Same, lives of moves. -/
import Derived.Test.YtjpclnmohemjlaaPlanW
import Derived.Deep.Slices
import Derived.Laws.StructEq
namespace Go.Proofs.Ytjpclnmohemjlaa
open Go.RowKit
theorem info_rmove : (Try.prog.info? 44).map (fun i => (i.zero, i.size, i.bytes)) = some (some (.agg #[.int .i64 0, .int .i64 0, .int .i64 0]), 3, 24) := by kernel_rfl
theorem eqmv (a b c d e f : Int) (w : World) : (Op.equalIn 10000 44 (.agg #[.int .i64 a, .int .i64 b, .int .i64 c]) (.agg #[.int .i64 d, .int .i64 e, .int .i64 f])).run Try.prog w = .ok (decide (a = d ∧ b = e ∧ c = f)) w := by
  rw [run_equalIn_agg w _ _ _ _ (by kernel_rfl) (by kernel_rfl)]
  have hf : (Try.prog.fieldsOf 44).toList.map (fun f => (f.name == "_", f.type, f.offset)) = [(false, 3, 0), (false, 3, 1), (false, 3, 2)] := by kernel_rfl
  generalize (Try.prog.fieldsOf 44).toList = fs at hf
  obtain ⟨f0, fs, rfl, h0, hf⟩ := List.map_eq_cons_iff.1 hf
  obtain ⟨f1, fs, rfl, h1, hf⟩ := List.map_eq_cons_iff.1 hf
  obtain ⟨f2, fs, rfl, h2, hf⟩ := List.map_eq_cons_iff.1 hf
  obtain rfl := List.map_eq_nil_iff.1 hf
  simp only [Prod.mk.injEq, beq_eq_false_iff_ne] at h0 h1 h2
  obtain ⟨n0, t0, o0⟩ := h0
  obtain ⟨n1, t1, o1⟩ := h1
  obtain ⟨n2, t2, o2⟩ := h2
  simp only [Op.eqFields, t0, t1, t2, o0, o1, o2]
  rw [if_pos n0, if_pos n1, if_pos n2]
  by_cases h1 : a = d <;> by_cases h2 : b = e <;> by_cases h3 : c = f
  all_goals
    go_simp
/-- The cells of the i-th move. -/
theorem mv_cells {w : World} {ad : Addr} {n c : Nat} {l : List Mv} (h : Rds w 3 (some ad) n c (mvs l)) (i : Nat) (m : Mv) (hi : l[i]? = some m) : ∀ j u, (mvC m)[j]? = some u → w.cell? ((ad.add (i * 3)).add j) = some u := by
  intro j u hj
  have := h.cell ad rfl _ _ (mvs_get l i m hi j u hj)
  have e : ((ad.add (i * 3)).add j) = ad.add (i * 3 + j) := Go.Deep.add_add _ _ _
  rw [e]
  exact this
set_option maxHeartbeats 1000000 in
theorem lplain (A : Option Addr) (n c : Nat) (l : List Mv) (w : World) (hr : Rds w 3 A n c (mvs l)) (hn : n ≤ 100000) :
    Calls Try.prog 17 #[.slice A n c] w fun e w' => (∃ v, e = .returned v ∧ w'.ownsRow w.heap.size 44 3 v l.length (mvs l)) ∧ Below w.heap.size w w' := by
  have HN : Hid (l.length = n) := by have := hr.len; rw [mvs_length] at this; show _ = _; omega
  go_enter Try.func17, Try.ntmps17
  go_wp2
  go_loopw [3, 8] (fun o i wr => ∃ k : Nat, k ≤ n ∧ i = .int .i64 k ∧ Below w.heap.size w wr ∧ wr.ownsRow w.heap.size 44 3 o k (mvs (l.take k))) (fun _ i _ => n - (intOf i).toNat)
  case atStart => exact ⟨0, Nat.zero_le _, rfl, Below.refl _ _, World.ownsRow_nil _ _ _ _⟩
  case round =>
    obtain ⟨k, hk, rfl, hb, ho⟩ := hrel
    by_cases hlt : k < n
    · obtain ⟨ad, rfl⟩ := hr.some_ (by omega)
      have hkx : k < l.length := by rw [HN.out]; exact hlt
      have hg : l[k]? = some l[k] := List.getElem?_eq_getElem hkx
      obtain ⟨m, hm⟩ : ∃ m, m = l[k] := ⟨_, rfl⟩
      rw [← hm] at hg
      have hcs := mv_cells (hr.below hb) k m hg
      have hc0 : wr.cell? (ad.add (k * 3)) = some (.int .i64 m.core) := hcs 0 _ rfl
      have hc1 : wr.cell? ⟨(ad.add (k * 3)).block, (ad.add (k * 3)).off + 1, none⟩ = some (.int .i64 m.from_) := hcs 1 _ rfl
      have hc2 : wr.cell? ⟨(ad.add (k * 3)).block, (ad.add (k * 3)).off + 2, none⟩ = some (.int .i64 m.to) := hcs 2 _ rfl
      have HG := Lib.hid hg
      clear hcs hg hm
      have hal := below_al hb (.cells #[.int .i64 m.core, .int .i64 m.from_, .int .i64 m.to] 40)
      go_wp2_with (at_builtin; refine apk (W := wr.alloc (.cells #[.int .i64 m.core, .int .i64 m.from_, .int .i64 m.to] 40)) (w0 := w) w.heap.size rfl _ _ 32 44 _ 3 24 (by rfl) Try.underlying32 info_rmove rfl (by decide) (by decide) _ k (mvs (l.take k)) (mvC m) (by rfl) (by go_simp) rfl (by intro u hu; simp [mvC] at hu; rcases hu with rfl | rfl | rfl <;> rfl) (ho.alloc _) hal hal.size (by omega) ?_; intro v5 w5 q1 q2 q3 q4)
      go_roundw
      case rel =>
        refine ⟨k + 1, by omega, by go_num, q2, ?_⟩
        obtain ⟨hk2, hke⟩ := List.getElem?_eq_some_iff.1 HG.out
        rw [List.take_succ_eq_append_getElem hk2, hke, mvs_append, mvs_one]
        exact q1
      case measure => simp [intOf]; omega
    · have hkn : k = n := by omega
      subst hkn
      go_wp2
      go_ret
      refine ⟨⟨_, rfl, ?_⟩, hb⟩
      rw [List.take_of_length_le (by rw [HN.out]; exact Nat.le_refl _)] at ho
      rw [HN.out]
      exact ho
set_option maxHeartbeats 1000000 in
theorem rsame (A : Option Addr) (n c : Nat) (l : List Mv) (B : Option Addr) (m d : Nat) (l2 : List Mv) (w : World) (hr : Rds w 3 A n c (mvs l)) (hr2 : Rds w 3 B m d (mvs l2)) :
    Calls Try.prog 16 #[.slice A n c, .slice B m d] w fun e w' => e = .returned (.bool (decide (l = l2))) ∧ Below w.heap.size w w' := by
  have HN : Hid (l.length = n) := by have := hr.len; rw [mvs_length] at this; show _ = _; omega
  have HM : Hid (l2.length = m) := by have := hr2.len; rw [mvs_length] at this; show _ = _; omega
  have hmax : n ≤ 9223372036854775807 := by have := hr.le; have := hr.max; unfold maxLen at this; omega
  by_cases hnm : n = m
  · subst hnm
    go_enter Try.func16, Try.ntmps16
    go_wp2
    go_loopw [13] (fun i wr => ∃ k : Nat, k ≤ n ∧ i = .int .i64 k ∧ Below w.heap.size w wr ∧ Hid (l.take k = l2.take k)) (fun i _ => n - (intOf i).toNat)
    case atStart => exact ⟨0, Nat.zero_le _, rfl, Below.refl _ _, by show _ = _; simp⟩
    case round =>
      obtain ⟨k, hk, rfl, hb, HJ⟩ := hrel
      by_cases hlt : k < n
      · have hkx : k < l.length := by rw [HN.out]; exact hlt
        have hky : k < l2.length := by rw [HM.out]; exact hlt
        obtain ⟨ad, rfl⟩ := hr.some_ (by omega)
        obtain ⟨bd, rfl⟩ := hr2.some_ (by omega)
        have hg1 : l[k]? = some l[k] := List.getElem?_eq_getElem hkx
        have hg2 : l2[k]? = some l2[k] := List.getElem?_eq_getElem hky
        have hcs := mv_cells (hr.below hb) k _ hg1
        have hcs2 := mv_cells (hr2.below hb) k _ hg2
        obtain ⟨x, hx⟩ : ∃ x, x = l[k] := ⟨_, rfl⟩
        obtain ⟨y, hy⟩ : ∃ y, y = l2[k] := ⟨_, rfl⟩
        rw [← hx] at hcs
        rw [← hy] at hcs2
        have hc0 : wr.cell? (ad.add (k * 3)) = some (.int .i64 x.core) := hcs 0 _ rfl
        have hc1 : wr.cell? ⟨(ad.add (k * 3)).block, (ad.add (k * 3)).off + 1, none⟩ = some (.int .i64 x.from_) := hcs 1 _ rfl
        have hc2 : wr.cell? ⟨(ad.add (k * 3)).block, (ad.add (k * 3)).off + 2, none⟩ = some (.int .i64 x.to) := hcs 2 _ rfl
        have hd0 : wr.cell? (bd.add (k * 3)) = some (.int .i64 y.core) := hcs2 0 _ rfl
        have hd1 : wr.cell? ⟨(bd.add (k * 3)).block, (bd.add (k * 3)).off + 1, none⟩ = some (.int .i64 y.from_) := hcs2 1 _ rfl
        have hd2 : wr.cell? ⟨(bd.add (k * 3)).block, (bd.add (k * 3)).off + 2, none⟩ = some (.int .i64 y.to) := hcs2 2 _ rfl
        have HX := Lib.hid hx
        have HY := Lib.hid hy
        have hi1 : (k : Int) < (n : Int) := by omega
        clear hx hy hg1 hg2 hcs hcs2
        by_cases hxy : x = y
        · have hq1 : (x.core = y.core ∧ x.from_ = y.from_ ∧ x.to = y.to) := by rw [hxy]; exact ⟨rfl, rfl, rfl⟩
          rw [hq1.1] at hc0
          rw [hq1.2.1] at hc1
          rw [hq1.2.2] at hc2
          have HE := Lib.hid hxy
          clear hxy hq1
          go_wp2
          go_quiet (fail)
          go_wp2
          go_roundw
          case rel =>
            refine ⟨k + 1, by omega, by go_num, below_dr hb _, ?_⟩
            show _ = _
            rw [List.take_succ_eq_append_getElem hkx, List.take_succ_eq_append_getElem hky, HJ.out, ← HX.out, ← HY.out, HE.out]
          case measure => simp [intOf]; omega
        · have hq1 : x.core ≠ y.core ∨ (x.core = y.core ∧ x.from_ ≠ y.from_) ∨ (x.core = y.core ∧ x.from_ = y.from_ ∧ x.to ≠ y.to) := by
            by_cases h1 : x.core = y.core
            · by_cases h2 : x.from_ = y.from_
              · by_cases h3 : x.to = y.to
                · exfalso
                  apply hxy
                  obtain ⟨a1, a2, a3⟩ := x
                  obtain ⟨b1, b2, b3⟩ := y
                  simp only at h1 h2 h3
                  rw [h1, h2, h3]
                · exact .inr (.inr ⟨h1, h2, h3⟩)
              · exact .inr (.inl ⟨h1, h2⟩)
            · exact .inl h1
          have HE := Lib.hid hxy
          clear hxy
          have fin : decide (l = l2) = false := by
            rw [decide_eq_false_iff_not]
            intro e
            exact HE.out (by rw [HX.out, HY.out]; simp [e])
          have FIN := Lib.hid fin
          clear fin
          rcases hq1 with h1 | ⟨h1, h2⟩ | ⟨h1, h2, h3⟩
          · have hb1 : (x.core == y.core) = false := by simp [h1]
            go_wp2
            go_quiet (fail)
            go_wp2
            go_ret
            exact ⟨ret_bool FIN.out.symm, below_dr hb _⟩
          · have hb1 : (x.from_ == y.from_) = false := by simp [h2]
            rw [h1] at hc0
            go_wp2
            go_quiet (fail)
            go_wp2
            go_ret
            exact ⟨ret_bool FIN.out.symm, below_dr hb _⟩
          · have hb1 : (x.to == y.to) = false := by simp [h3]
            rw [h1] at hc0
            rw [h2] at hc1
            go_wp2
            go_quiet (fail)
            go_wp2
            go_ret
            exact ⟨ret_bool FIN.out.symm, below_dr hb _⟩
      · go_wp2
        go_ret
        refine ⟨ret_bool ?_, hb⟩
        have hkn : k = n := by omega
        have h := HJ.out
        rw [List.take_of_length_le (by rw [HN.out]; omega), List.take_of_length_le (by rw [HM.out]; omega)] at h
        simp [h]
  · go_enter Try.func16, Try.ntmps16
    go_wp2
    go_ret
    refine ⟨ret_bool ?_, Below.refl _ _⟩
    rw [eq_comm, decide_eq_false_iff_not]
    intro e
    have h1 := HN.out
    have h2 := HM.out
    rw [e] at h1
    omega
end Go.Proofs.Ytjpclnmohemjlaa
