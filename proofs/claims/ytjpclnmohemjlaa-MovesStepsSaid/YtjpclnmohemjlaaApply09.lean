/- Apply of moves, the code's and the document's. -/
import Derived.Test.YtjpclnmohemjlaaSame09
import Derived.Lib.SliceRun
namespace Go.Proofs.Ytjpclnmohemjlaa
open Go.RowKit
set_option maxHeartbeats 1000000 in
theorem cloneInt (A : Option Addr) (m c : Nat) (os : List Int) (w : World) (hr : Rds w 1 A m c (nums .i64 os)) (hm : m ≤ 100000) :
    Calls Try.prog 30 #[.slice A m c] w fun e w' => (∃ v, e = .returned v ∧ w'.ownsRow w.heap.size 3 1 v m (nums .i64 os)) ∧ Below w.heap.size w w' := by
  have q22 : ∀ (w : World) (a : Option Addr) (n c n' c' : Nat), (binOp .eql 22 (.slice a n c) (.slice none n' c')).run Try.prog w = .ok (.bool a.isNone) w := fun w a n c n' c' => Lib.run_eql_slice_nil w _ _ a n c n' c' Try.underlying22
  cases A with
  | none =>
    obtain ⟨rfl, rfl, h0⟩ := hr.nil_n
    go_enter Try.func30, Try.ntmps30
    go_wp2
    go_ret
    refine ⟨⟨_, rfl, ?_⟩, Below.refl _ _⟩
    rw [h0]
    exact World.ownsRow_nil _ _ _ _
  | some ad =>
    have hal : Below w.heap.size w (w.alloc (.cells #[] 3)) := below_al (Below.refl _ _) _
    have hown : (w.alloc (.cells #[] 3)).ownsRow w.heap.size 3 1 (.slice (some ⟨w.heap.size, 0, none⟩) 0 0) 0 [] := World.ownsRow_lit w #[] 0 (Nat.le_refl _) (Nat.zero_le _) rfl
    go_enter Try.func30, Try.ntmps30
    go_wp2_with (at_builtin; refine apn (w0 := w) w.heap.size rfl _ _ 22 3 _ 1 8 (by rfl) Try.underlying22 info_int rfl (by decide) (by decide) _ 0 [] (some ad) m c _ (by rfl) (by rfl) (hr.below hal) (nums_one _ _) hown hal hal.size (by omega) ?_; intro v1 w1 h1 h2 h3 h4)
    go_ret
    refine ⟨⟨_, rfl, ?_⟩, h2⟩
    simpa using h1
set_option maxHeartbeats 4000000 in
theorem mapply (A : Option Addr) (m c : Nat) (os : List Int) (B : Option Addr) (n d : Nat) (l : List Mv) (w : World) (hr : Rds w 1 A m c (nums .i64 os)) (hr2 : Rds w 3 B n d (mvs l)) (hm : m ≤ 100000) :
    Calls Try.prog 20 #[.slice A m c, .slice B n d] w fun e w' => (∃ v, e = .returned v ∧ w'.ownsRow w.heap.size 3 1 v m (nums .i64 (applyV os l))) ∧ Below w.heap.size w w' := by
  have HN := Lib.hid (nums_inj_len hr)
  have HM : Hid (l.length = n) := by have := hr2.len; rw [mvs_length] at this; show _ = _; omega
  have hmax : n ≤ 9223372036854775807 := by have := hr2.le; have := hr2.max; unfold maxLen at this; omega
  go_enter Try.func20, Try.ntmps20
  go_wp2_with (go_at_call 30; refine (cloneInt A m c os w hr hm).mono ?_; rintro e w1 ⟨⟨v, rfl, hv⟩, hb1⟩)
  go_loopw [12] (fun i wr => ∃ k : Nat, k ≤ n ∧ i = .int .i64 k ∧ Below w.heap.size w wr ∧ wr.ownsRow w.heap.size 3 1 v m (nums .i64 (applyV os (l.take k)))) (fun i _ => n - (intOf i).toNat)
  case atStart => exact ⟨0, Nat.zero_le _, rfl, hb1, hv⟩
  case round =>
    obtain ⟨k, hk, rfl, hb, ho⟩ := hrel
    clear hv hb1
    by_cases hlt : k < n
    · obtain ⟨bd, rfl⟩ := hr2.some_ (by omega)
      have hkx : k < l.length := by rw [HM.out]; exact hlt
      have hg : l[k]? = some l[k] := List.getElem?_eq_getElem hkx
      have htk : applyV os (l.take (k + 1)) = applyM (applyV os (l.take k)) l[k] := by
        rw [List.take_succ_eq_append_getElem hkx, applyV, List.foldl_append]
        rfl
      obtain ⟨x, hx⟩ : ∃ x, x = l[k] := ⟨_, rfl⟩
      rw [← hx] at hg htk
      have hcs := mv_cells (hr2.below hb) k x hg
      have hc0 : wr.cell? (bd.add (k * 3)) = some (.int .i64 x.core) := hcs 0 _ rfl
      have hc1 : wr.cell? ⟨(bd.add (k * 3)).block, (bd.add (k * 3)).off + 1, none⟩ = some (.int .i64 x.from_) := hcs 1 _ rfl
      have hc2 : wr.cell? ⟨(bd.add (k * 3)).block, (bd.add (k * 3)).off + 2, none⟩ = some (.int .i64 x.to) := hcs 2 _ rfl
      have hlen : (applyV os (l.take k)).length = m := by rw [applyV_length]; exact HN.out
      have HTK := Lib.hid htk
      generalize applyV os (l.take k) = cur at ho hlen HTK
      have HLEN := Lib.hid hlen
      clear hcs hx hg htk hlen
      have hal := below_al hb (.cells #[.int .i64 x.core, .int .i64 x.from_, .int .i64 x.to] 40)
      obtain ⟨core, fr, tw⟩ := x
      simp only at hc0 hc1 hc2 hal
      have skip : ¬ (0 ≤ core ∧ cur[core.toNat]? = some fr) → applyV os (l.take (k + 1)) = cur := by
        intro h
        rw [HTK.out]
        unfold applyM
        rw [if_neg h]
      have SKIP := Lib.hid skip
      clear skip
      have hoa := ho.alloc (.cells #[.int .i64 core, .int .i64 fr, .int .i64 tw] 40)
      by_cases q1 : core < 0
      · have d1 : decide (0 ≤ core) = false := by simp; omega
        have e1 := SKIP.out (fun h => by omega)
        go_wp2
        go_quiet (fail)
        go_wp2
        go_roundw
        case rel => exact ⟨k + 1, by omega, by go_num, below_dr hal _, by rw [e1]; exact own_below hoa (below_dr (Below.refl _ _) _)⟩
        case measure => simp [intOf]; omega
      · obtain ⟨j, rfl⟩ : ∃ j : Nat, core = j := ⟨core.toNat, by omega⟩
        have d1 : (0 : Int) ≤ (j : Int) := by omega
        by_cases q2 : m ≤ j
        · obtain ⟨VA, vc, rfl⟩ := own_slice ho
          have d2 : decide ((j : Int) < (m : Int)) = false := by simp; omega
          have d2' : decide (j < m) = false := by simp; omega
          have d2'' : ¬ (j : Int) < (m : Int) := by omega
          have e1 := SKIP.out (fun h => by have := (List.getElem?_eq_some_iff.1 h.2).1; rw [HLEN.out] at this; simp at this; omega)
          go_wp2
          go_quiet (fail)
          go_wp2
          go_roundw
          case rel => exact ⟨k + 1, by omega, by go_num, below_dr hal _, by rw [e1]; exact own_below hoa (below_dr (Below.refl _ _) _)⟩
          case measure => simp [intOf]; omega
        · obtain ⟨g, cap, rfl, hbg, hgl⟩ := ho.form (by omega)
          have d2 : (j : Int) < (m : Int) := by omega
          have hjx : j < cur.length := by rw [HLEN.out]; omega
          have hcg : cur[j]? = some cur[j] := List.getElem?_eq_getElem hjx
          generalize cur[j] = y at hcg
          have hcy := ho.cellAt j (by omega)
          rw [getD_nums hcg] at hcy
          have HCG := Lib.hid hcg
          clear hcg
          by_cases q3 : y = fr
          · have d3 : (y == fr) = true := by simp [q3]
            have e1 : applyV os (l.take (k + 1)) = cur.set j tw := by
              rw [HTK.out]
              unfold applyM
              rw [if_pos (by simp only [Int.toNat_natCast]; exact ⟨by omega, by rw [HCG.out, q3]⟩)]
              rfl
            have E1 := Lib.hid e1
            clear e1
            have hdr : ∀ nq, (((wr.alloc (.cells #[.int .i64 (j : Int), .int .i64 fr, .int .i64 tw] 40)).drewN nq)).ownsRow w.heap.size 3 1 (.slice (some ⟨g, 0, none⟩) m cap) m (nums .i64 cur) := fun nq => own_below hoa (below_dr (Below.refl _ _) _)
            go_wp2
            go_quiet (fail)
            have hf := (hdr nq).frozenAt j
            have hcy2 := (hdr nq).cellAt j (by omega)
            rw [getD_nums HCG.out] at hcy2
            have hst := (hdr nq).stored j (.int .i64 tw)
            have hal2 := below_dr hal nq
            have hx0 : (((wr.alloc (.cells #[.int .i64 (j : Int), .int .i64 fr, .int .i64 tw] 40)).drewN nq)).cell? ⟨wr.heap.size, 0, none⟩ = some (.int .i64 (j : Int)) := by go_simp
            have hx2 : (((wr.alloc (.cells #[.int .i64 (j : Int), .int .i64 fr, .int .i64 tw] 40)).drewN nq)).cell? ⟨wr.heap.size, 2, none⟩ = some (.int .i64 tw) := by go_simp
            generalize ((wr.alloc (.cells #[.int .i64 (j : Int), .int .i64 fr, .int .i64 tw] 40)).drewN nq) = W at hf hcy2 hst hal2 hx0 hx2 ⊢
            rw [nums_set] at hst
            have hst1 := hst.1
            have hbb : Below w.heap.size w (W.setCell ⟨g, j, none⟩ (.int .i64 tw)) := hal2.grown hst.2 hal2.size (fun k hk => by cases hk; exact hbg)
            clear hst hdr
            go_wp2
            go_roundw
            case rel => exact ⟨k + 1, by omega, by go_num, hbb, by rw [E1.out]; exact hst1⟩
            case measure => simp [intOf]; omega
          · have d3 : (y == fr) = false := by simp [q3]
            have e1 := SKIP.out (fun h => by simp only [Int.toNat_natCast] at h; rw [HCG.out] at h; exact q3 (by simpa using h.2))
            go_wp2
            go_quiet (fail)
            go_wp2
            go_roundw
            case rel => exact ⟨k + 1, by omega, by go_num, below_dr hal _, by rw [e1]; exact own_below hoa (below_dr (Below.refl _ _) _)⟩
            case measure => simp [intOf]; omega
    · have hkn : k = n := by omega
      subst hkn
      go_wp2
      go_ret
      refine ⟨⟨_, rfl, ?_⟩, hb⟩
      rw [List.take_of_length_le (by rw [HM.out]; exact Nat.le_refl _)] at ho
      exact ho
set_option maxHeartbeats 4000000 in
theorem rapply (A : Option Addr) (m c : Nat) (os : List Int) (B : Option Addr) (n d : Nat) (l : List Mv) (w : World) (hr : Rds w 1 A m c (nums .i64 os)) (hr2 : Rds w 3 B n d (mvs l)) (hm : m ≤ 100000) :
    Calls Try.prog 21 #[.slice A m c, .slice B n d] w fun e w' => (∃ v, e = .returned v ∧ w'.ownsRow w.heap.size 3 1 v m (nums .i64 (applyV os l))) ∧ Below w.heap.size w w' := by
  have HN := Lib.hid (nums_inj_len hr)
  have HM : Hid (l.length = n) := by have := hr2.len; rw [mvs_length] at this; show _ = _; omega
  have hmax : n ≤ 9223372036854775807 := by have := hr2.le; have := hr2.max; unfold maxLen at this; omega
  go_enter Try.func21, Try.ntmps21
  have hal : Below w.heap.size w (w.alloc (.cells #[] 3)) := below_al (Below.refl _ _) _
  have hown : (w.alloc (.cells #[] 3)).ownsRow w.heap.size 3 1 (.slice (some ⟨w.heap.size, 0, none⟩) 0 0) 0 [] := World.ownsRow_lit w #[] 0 (Nat.le_refl _) (Nat.zero_le _) rfl
  go_wp2_with (at_builtin; refine apn (w0 := w) w.heap.size rfl _ _ 22 3 _ 1 8 (by rfl) Try.underlying22 info_int rfl (by decide) (by decide) _ 0 [] A m c _ (by rfl) (by rfl) (hr.below hal) (nums_one _ _) hown hal hal.size (by omega) ?_; intro v w1 hv0 hb1 h3 h4)
  have hv : w1.ownsRow w.heap.size 3 1 v m (nums .i64 os) := by simpa using hv0
  clear hv0 hal hown h3 h4
  go_loopw [13] (fun i wr => ∃ k : Nat, k ≤ n ∧ i = .int .i64 k ∧ Below w.heap.size w wr ∧ wr.ownsRow w.heap.size 3 1 v m (nums .i64 (applyV os (l.take k)))) (fun i _ => n - (intOf i).toNat)
  case atStart => exact ⟨0, Nat.zero_le _, rfl, hb1, hv⟩
  case round =>
    obtain ⟨k, hk, rfl, hb, ho⟩ := hrel
    clear hv hb1
    by_cases hlt : k < n
    · obtain ⟨bd, rfl⟩ := hr2.some_ (by omega)
      have hkx : k < l.length := by rw [HM.out]; exact hlt
      have hg : l[k]? = some l[k] := List.getElem?_eq_getElem hkx
      have htk : applyV os (l.take (k + 1)) = applyM (applyV os (l.take k)) l[k] := by
        rw [List.take_succ_eq_append_getElem hkx, applyV, List.foldl_append]
        rfl
      obtain ⟨x, hx⟩ : ∃ x, x = l[k] := ⟨_, rfl⟩
      rw [← hx] at hg htk
      have hcs := mv_cells (hr2.below hb) k x hg
      have hc0 : wr.cell? (bd.add (k * 3)) = some (.int .i64 x.core) := hcs 0 _ rfl
      have hc1 : wr.cell? ⟨(bd.add (k * 3)).block, (bd.add (k * 3)).off + 1, none⟩ = some (.int .i64 x.from_) := hcs 1 _ rfl
      have hc2 : wr.cell? ⟨(bd.add (k * 3)).block, (bd.add (k * 3)).off + 2, none⟩ = some (.int .i64 x.to) := hcs 2 _ rfl
      have hlen : (applyV os (l.take k)).length = m := by rw [applyV_length]; exact HN.out
      have HTK := Lib.hid htk
      generalize applyV os (l.take k) = cur at ho hlen HTK
      have HLEN := Lib.hid hlen
      clear hcs hx hg htk hlen
      have hal := below_al hb (.cells #[.int .i64 x.core, .int .i64 x.from_, .int .i64 x.to] 44)
      obtain ⟨core, fr, tw⟩ := x
      simp only at hc0 hc1 hc2 hal
      have skip : ¬ (0 ≤ core ∧ cur[core.toNat]? = some fr) → applyV os (l.take (k + 1)) = cur := by
        intro h
        rw [HTK.out]
        unfold applyM
        rw [if_neg h]
      have SKIP := Lib.hid skip
      clear skip
      have hoa := ho.alloc (.cells #[.int .i64 core, .int .i64 fr, .int .i64 tw] 44)
      by_cases q1 : core < 0
      · have d1 : decide (0 ≤ core) = false := by simp; omega
        have e1 := SKIP.out (fun h => by omega)
        go_wp2
        go_quiet (fail)
        go_wp2
        go_roundw
        case rel => exact ⟨k + 1, by omega, by go_num, below_dr hal _, by rw [e1]; exact own_below hoa (below_dr (Below.refl _ _) _)⟩
        case measure => simp [intOf]; omega
      · obtain ⟨j, rfl⟩ : ∃ j : Nat, core = j := ⟨core.toNat, by omega⟩
        have d1 : (0 : Int) ≤ (j : Int) := by omega
        by_cases q2 : m ≤ j
        · obtain ⟨VA, vc, rfl⟩ := own_slice ho
          have d2 : decide ((j : Int) < (m : Int)) = false := by simp; omega
          have d2' : decide (j < m) = false := by simp; omega
          have d2'' : ¬ (j : Int) < (m : Int) := by omega
          have e1 := SKIP.out (fun h => by have := (List.getElem?_eq_some_iff.1 h.2).1; rw [HLEN.out] at this; simp at this; omega)
          go_wp2
          go_quiet (fail)
          go_wp2
          go_roundw
          case rel => exact ⟨k + 1, by omega, by go_num, below_dr hal _, by rw [e1]; exact own_below hoa (below_dr (Below.refl _ _) _)⟩
          case measure => simp [intOf]; omega
        · obtain ⟨g, cap, rfl, hbg, hgl⟩ := ho.form (by omega)
          have d2 : (j : Int) < (m : Int) := by omega
          have hjx : j < cur.length := by rw [HLEN.out]; omega
          have hcg : cur[j]? = some cur[j] := List.getElem?_eq_getElem hjx
          generalize cur[j] = y at hcg
          have hcy := ho.cellAt j (by omega)
          rw [getD_nums hcg] at hcy
          have HCG := Lib.hid hcg
          clear hcg
          by_cases q3 : y = fr
          · have d3 : (y == fr) = true := by simp [q3]
            have e1 : applyV os (l.take (k + 1)) = cur.set j tw := by
              rw [HTK.out]
              unfold applyM
              rw [if_pos (by simp only [Int.toNat_natCast]; exact ⟨by omega, by rw [HCG.out, q3]⟩)]
              rfl
            have E1 := Lib.hid e1
            clear e1
            have hdr : ∀ nq, (((wr.alloc (.cells #[.int .i64 (j : Int), .int .i64 fr, .int .i64 tw] 44)).drewN nq)).ownsRow w.heap.size 3 1 (.slice (some ⟨g, 0, none⟩) m cap) m (nums .i64 cur) := fun nq => own_below hoa (below_dr (Below.refl _ _) _)
            go_wp2
            go_quiet (fail)
            have hf := (hdr nq).frozenAt j
            have hcy2 := (hdr nq).cellAt j (by omega)
            rw [getD_nums HCG.out] at hcy2
            have hst := (hdr nq).stored j (.int .i64 tw)
            have hal2 := below_dr hal nq
            have hx0 : (((wr.alloc (.cells #[.int .i64 (j : Int), .int .i64 fr, .int .i64 tw] 44)).drewN nq)).cell? ⟨wr.heap.size, 0, none⟩ = some (.int .i64 (j : Int)) := by go_simp
            have hx2 : (((wr.alloc (.cells #[.int .i64 (j : Int), .int .i64 fr, .int .i64 tw] 44)).drewN nq)).cell? ⟨wr.heap.size, 2, none⟩ = some (.int .i64 tw) := by go_simp
            generalize ((wr.alloc (.cells #[.int .i64 (j : Int), .int .i64 fr, .int .i64 tw] 44)).drewN nq) = W at hf hcy2 hst hal2 hx0 hx2 ⊢
            rw [nums_set] at hst
            have hst1 := hst.1
            have hbb : Below w.heap.size w (W.setCell ⟨g, j, none⟩ (.int .i64 tw)) := hal2.grown hst.2 hal2.size (fun k hk => by cases hk; exact hbg)
            clear hst hdr
            go_wp2
            go_roundw
            case rel => exact ⟨k + 1, by omega, by go_num, hbb, by rw [E1.out]; exact hst1⟩
            case measure => simp [intOf]; omega
          · have d3 : (y == fr) = false := by simp [q3]
            have e1 := SKIP.out (fun h => by simp only [Int.toNat_natCast] at h; rw [HCG.out] at h; exact q3 (by simpa using h.2))
            go_wp2
            go_quiet (fail)
            go_wp2
            go_roundw
            case rel => exact ⟨k + 1, by omega, by go_num, below_dr hal _, by rw [e1]; exact own_below hoa (below_dr (Below.refl _ _) _)⟩
            case measure => simp [intOf]; omega
    · have hkn : k = n := by omega
      subst hkn
      go_wp2
      go_ret
      refine ⟨⟨_, rfl, ?_⟩, hb⟩
      rw [List.take_of_length_le (by rw [HM.out]; exact Nat.le_refl _)] at ho
      exact ho
end Go.Proofs.Ytjpclnmohemjlaa
