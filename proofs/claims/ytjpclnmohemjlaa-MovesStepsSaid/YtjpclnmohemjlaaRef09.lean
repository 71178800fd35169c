/- The document's Good, Count, right, Need of moves. -/
import Derived.Test.YtjpclnmohemjlaaMoves
import Derived.Test.YtjpclnmohemjlaaChg
namespace Go.Proofs.Ytjpclnmohemjlaa
open Go.RowKit
theorem any_drop {α : Type} (p : α → Bool) (l : List α) (k : Nat) (h : k < l.length) : (l.drop k).any p = (p l[k] || (l.drop (k + 1)).any p) := by
  rw [List.drop_eq_getElem_cons h, List.any_cons]
set_option maxHeartbeats 1000000 in
theorem rgood (A : Option Addr) (m c : Nat) (os : List Int) (n : Int) (w : World) (hr : Rds w 1 A m c (nums .i64 os)) :
    Calls Try.prog 12 #[.slice A m c, .int .i64 n] w fun e w' => e = .returned (.bool (goodB os n)) ∧ w = w' := by
  have HN := Lib.hid (nums_inj_len hr)
  have hmax : m ≤ 9223372036854775807 := by have := hr.le; have := hr.max; unfold maxLen at this; omega
  have hb1 : (goodB os n) = (decide (os.length ≤ 64) && decide (0 ≤ n) && decide (n ≤ 64) && !os.any (wrongO n)) := rfl
  rw [HN.out] at hb1
  have HB := Lib.hid hb1
  clear hb1
  generalize goodB os n = q at HB
  go_enter Try.func12, Try.ntmps12
  go_wp2
  go_loop [9] (fun i => ∃ k : Nat, k ≤ m ∧ i = .int .i64 k ∧ Hid ((os.drop k).any (wrongO n) = os.any (wrongO n))) (fun i => m - (intOf i).toNat)
  case atStart => exact ⟨0, Nat.zero_le _, rfl, by show _ = _; simp⟩
  case round =>
    obtain ⟨k, hk, rfl, HJ⟩ := hrel
    by_cases hlt : k < m
    · have hkx : k < os.length := by rw [HN.out]; exact hlt
      obtain ⟨ad, rfl⟩ := hr.some_ (by omega)
      have hcell := hr.cell ad rfl k _ (nums_get .i64 os k hkx)
      have hj := HJ.out
      rw [any_drop _ _ _ hkx] at hj
      generalize os[k] = o at hcell hj
      have hwr : wrongO n o = true ∨ wrongO n o = false := by cases wrongO n o <;> simp
      by_cases h1 : o < 0
      · have e1 : wrongO n o = true := by simp [wrongO, h1]
        rw [e1] at hj
        have HH := Lib.hid hj
        clear hj hwr e1
        go_wp2
        go_ret
        refine ⟨ret_bool ?_, rfl⟩
        rw [HB.out, ← HH.out]
        simp
      · by_cases h2 : n < o
        · have e1 : wrongO n o = true := by simp [wrongO, h2]
          rw [e1] at hj
          have HH := Lib.hid hj
          clear hj hwr e1
          go_wp2
          go_ret
          refine ⟨ret_bool ?_, rfl⟩
          rw [HB.out, ← HH.out]
          simp
        · have e1 : wrongO n o = false := by simp [wrongO, h1, h2]
          rw [e1, Bool.false_or] at hj
          have HH := Lib.hid hj
          clear hj hwr e1
          go_wp2
          go_round
          case rel => exact ⟨k + 1, by omega, by go_num, HH⟩
          case measure => simp [intOf]; omega
    · have hj := HJ.out
      rw [List.drop_of_length_le (by rw [HN.out]; omega)] at hj
      simp only [List.any_nil] at hj
      have HJ2 := Lib.hid hj
      clear hj
      by_cases h1 : (m : Int) ≤ 64 <;> by_cases h2 : 0 ≤ n <;> by_cases h3 : n ≤ 64
      all_goals
        go_wp2
        go_ret
        refine ⟨ret_bool ?_, rfl⟩
        rw [HB.out, ← HJ2.out]
        simp [h2, h3]
        try omega
set_option maxHeartbeats 1000000 in
theorem rright (A : Option Addr) (m c : Nat) (os : List Int) (B : Option Addr) (n d : Nat) (ts : List Int) (w : World) (hr : Rds w 1 A m c (nums .i64 os)) (hr2 : Rds w 1 B n d (nums .i64 ts)) :
    Calls Try.prog 24 #[.slice A m c, .slice B n d] w fun e w' => e = .returned (.bool (rightB os ts)) ∧ w = w' := by
  have HM := Lib.hid (nums_inj_len hr2)
  have hmax : n ≤ 9223372036854775807 := by have := hr2.le; have := hr2.max; unfold maxLen at this; omega
  have HG := Lib.hid (rgood A m c os n w hr)
  have hb1 : rightB os ts = (goodB os ts.length && !ts.any (fun t => decide (t < 0))) := rfl
  rw [HM.out] at hb1
  have HB := Lib.hid hb1
  clear hb1
  generalize rightB os ts = q at HB
  generalize goodB os n = g at HG HB
  go_enter Try.func24, Try.ntmps24
  go_wp2
  go_loop [9] (fun i => ∃ k : Nat, k ≤ n ∧ i = .int .i64 k ∧ Hid ((ts.drop k).any (fun t => decide (t < 0)) = ts.any (fun t => decide (t < 0)))) (fun i => n - (intOf i).toNat)
  case atStart => exact ⟨0, Nat.zero_le _, rfl, by show _ = _; simp⟩
  case round =>
    obtain ⟨k, hk, rfl, HJ⟩ := hrel
    by_cases hlt : k < n
    · have hkx : k < ts.length := by rw [HM.out]; exact hlt
      obtain ⟨ad, rfl⟩ := hr2.some_ (by omega)
      have hcell := hr2.cell ad rfl k _ (nums_get .i64 ts k hkx)
      have hj := HJ.out
      rw [any_drop _ _ _ hkx] at hj
      generalize ts[k] = o at hcell hj
      by_cases h1 : o < 0
      · rw [decide_eq_true h1] at hj
        have HH := Lib.hid hj
        clear hj
        go_wp2
        go_ret
        refine ⟨ret_bool ?_, rfl⟩
        rw [HB.out, ← HH.out]
        simp
      · rw [decide_eq_false h1, Bool.false_or] at hj
        have HH := Lib.hid hj
        clear hj
        go_wp2
        go_round
        case rel => exact ⟨k + 1, by omega, by go_num, HH⟩
        case measure => simp [intOf]; omega
    · have hj := HJ.out
      rw [List.drop_of_length_le (by rw [HM.out]; omega)] at hj
      simp only [List.any_nil] at hj
      have HJ2 := Lib.hid hj
      clear hj
      go_wp2_with (go_at_call 12; refine HG.out.mono ?_; rintro e w1 ⟨rfl, rfl⟩)
      go_ret
      refine ⟨ret_bool ?_, rfl⟩
      rw [HB.out, ← HJ2.out]
      simp
set_option maxHeartbeats 1000000 in
theorem rcount (A : Option Addr) (m c : Nat) (os : List Int) (n : Int) (w : World) (hr : Rds w 1 A m c (nums .i64 os)) :
    Calls Try.prog 15 #[.slice A m c, .int .i64 n] w fun e w' => (∃ B l d, e = .returned (.slice B l d) ∧ Rds w' 1 B l d (nums .i64 (countV os n)) ∧ ∀ ad, B = some ad → w.heap.size ≤ ad.block) ∧ Below w.heap.size w w' := by
  have HG := Lib.hid (rgood A m c os n w hr)
  cases hg : goodB os n with
  | false =>
    rw [hg] at HG
    have HV : Hid (countV os n = []) := by show _ = _; unfold countV; rw [hg]; rfl
    clear hg
    go_enter Try.func15, Try.ntmps15
    go_wp2_with (go_at_call 12; refine HG.out.mono ?_; rintro e w1 ⟨rfl, rfl⟩)
    go_ret
    refine ⟨⟨none, 0, 0, rfl, ?_, fun ad e => by cases e⟩, Below.refl _ _⟩
    rw [HV.out]
    exact Rds.none_ _ _
  | true =>
    rw [hg] at HG
    obtain ⟨g1, g2, g3, g4⟩ := goodB_iff.1 hg
    obtain ⟨N, rfl⟩ : ∃ N : Nat, n = N := ⟨n.toNat, by omega⟩
    have HV : Hid (countV os N = cntL os N) := by show _ = _; unfold countV; rw [hg]; rfl
    have HN := Lib.hid (nums_inj_len hr)
    have hm : m ≤ 64 := by have := HN.out; omega
    have HE := Lib.hid g4
    clear hg g4 g1
    go_enter Try.func15, Try.ntmps15
    go_wp2_with (first | (go_at_call 12; refine HG.out.mono ?_; rintro e w1 ⟨rfl, rfl⟩) | (refine mkn (w0 := w) w.heap.size rfl _ _ 22 3 _ 1 8 rfl Try.underlying22 info_int .i64 .i64 _ _ N (by rfl) (by rfl) (by go_num) (by go_num) (by omega) (by unfold maxLen; omega) (Below.refl _ _) (Nat.le_refl _) ?_; intro w2 ho2 hb2 hg2))
    have hz : w2.ownsRow w.heap.size 3 1 (.slice (some ⟨w.heap.size, 0, none⟩) N N) N (nums .i64 (cntL (os.take 0) N)) := by
      have e : (madeCells (Value.int .i64 0).cells (N * 1)).toList = nums .i64 (cntL (os.take 0) N) := by
        rw [Nat.mul_one, List.take_zero, cntL_nil, show (Value.int .i64 0).cells = #[.int .i64 0] from rfl, toList_madeCells_one]
        simp [nums]
      rw [← e]
      exact ho2
    clear ho2 hg2
    obtain ⟨g, hge⟩ : ∃ g, g = w.heap.size := ⟨_, rfl⟩
    rw [show Value.slice (some ⟨w.heap.size, 0, none⟩) N N = Value.slice (some ⟨g, 0, none⟩) N N by rw [hge]] at hz ⊢
    have hlt1 : w.heap.size ≤ g := by omega
    clear hge
    go_loopw [16] (fun i wr => ∃ k : Nat, k ≤ m ∧ i = .int .i64 k ∧ Below w.heap.size w wr ∧ wr.ownsRow w.heap.size 3 1 (.slice (some ⟨g, 0, none⟩) N N) N (nums .i64 (cntL (os.take k) N))) (fun i _ => m - (intOf i).toNat)
    case atStart => exact ⟨0, Nat.zero_le _, rfl, hb2, hz⟩
    case round =>
      obtain ⟨k, hk, rfl, hb, HO⟩ := hrel
      clear hz hb2
      by_cases hlt : k < m
      · have hkx : k < os.length := by rw [HN.out]; exact hlt
        obtain ⟨ad, rfl⟩ := hr.some_ (by omega)
        have hc1 := (hr.below hb).cell ad rfl k _ (nums_get .i64 os k hkx)
        obtain ⟨o, ho⟩ : ∃ o, o = os[k] := ⟨_, rfl⟩
        obtain ⟨e1, e2⟩ := HE.out os[k] (List.getElem_mem hkx)
        by_cases hpos : 0 < o
        · have hS := cntL_snoc (os.take k) N os[k] (by omega)
          rw [← List.take_succ_eq_append_getElem hkx] at hS
          rw [← ho] at hc1 e1 e2 hS
          obtain ⟨j, rfl⟩ : ∃ j : Nat, o = (j : Int) + 1 := ⟨(o - 1).toNat, by omega⟩
          have HS := Lib.hid hS
          clear hS ho
          have hj : j < N := by omega
          have hcnt : (os.take k).count ((j : Int) + 1) ≤ 64 := Nat.le_trans List.count_le_length (by rw [List.length_take]; omega)
          have hc2 := HO.cellAt j (by omega)
          rw [getD_nums (cntL_get _ _ _ hj)] at hc2
          have hf2 := HO.frozenAt j
          have hst := HO.stored j (.int .i64 (((os.take k).count ((j : Int) + 1) : Nat) + 1 : Int))
          rw [nums_set] at hst
          rw [show ((j : Int) + 1 - 1).toNat = j from by omega] at HS
          have hst1 := hst.1
          have hbb : Below w.heap.size w (wr.setCell ⟨g, j, none⟩ (.int .i64 (((os.take k).count ((j : Int) + 1) : Nat) + 1 : Int))) := hb.grown hst.2 hb.size (fun k hk => by cases hk; exact hlt1)
          rw [← HS.out] at hst1
          clear hst HS
          generalize (os.take k).count ((j : Int) + 1) = t at hcnt hc2 hst1 hbb
          go_wp2
          go_roundw
          case rel => exact ⟨k + 1, by omega, by go_num, hbb, hst1⟩
          case measure => simp [intOf]; omega
        · have hS := cntL_zero (os.take k) N os[k] (by omega)
          rw [← List.take_succ_eq_append_getElem hkx] at hS
          rw [← hS] at HO
          rw [← ho] at hc1 e1 e2
          clear hS ho
          go_wp2
          go_roundw
          case rel => exact ⟨k + 1, by omega, by go_num, hb, HO⟩
          case measure => simp [intOf]; omega
      · obtain rfl : k = m := by omega
        have hall : os.take k = os := List.take_of_length_le (by rw [HN.out]; omega)
        rw [hall] at HO
        clear hall
        go_wp2
        go_ret
        refine ⟨⟨_, _, _, rfl, ?_, fun ad e => by cases e; exact hlt1⟩, hb⟩
        rw [HV.out]
        exact (own_rds' HO).2
end Go.Proofs.Ytjpclnmohemjlaa
