/- The reference's Same of any two rows of requests; requests in the document's form. -/
import Derived.Test.YtdfncmhbbhmgfaaRefMore
import Derived.Laws.StructEq
namespace Go.Proofs.Ytdfncmhbbhmgfaa
open Go.RowKit
set_option maxRecDepth 100000 in
set_option maxHeartbeats 4000000 in
theorem rsame (A : Option Addr) (n c : Nat) (l : List Rq) (B : Option Addr) (m c2 : Nat) (w : World) (hr : Rds w 5 A n c (rqs l)) (hr2 : Rds w 5 B m c2 (rqs l)) :
    Calls Try.prog 17 #[.slice A n c, .slice B m c2] w fun e w' => e = .returned (.bool true) ∧ Below w.heap.size w w' := by
  have HN : Hid (l.length = n) := by show _ = _; have := hr.len; rw [rqs_length] at this; omega
  have hnm : m = n := by have := hr2.len; rw [rqs_length] at this; have := HN.out; omega
  subst hnm
  have hmax : m ≤ 9223372036854775807 := by have := hr.le; have := hr.max; unfold maxLen at this; omega
  go_enter Try.func17, Try.ntmps17
  go_wp2
  go_loopw [13] (fun i wr => ∃ k : Nat, k ≤ m ∧ i = .int .i64 k ∧ Below w.heap.size w wr) (fun i _ => m - (intOf i).toNat)
  case atStart => exact ⟨0, Nat.zero_le _, rfl, Below.refl _ _⟩
  case round =>
    obtain ⟨k, hk, rfl, hb⟩ := hrel
    by_cases hlt : k < m
    · have hkx : k < l.length := by rw [HN.out]; exact hlt
      obtain ⟨ad, rfl⟩ := hr.some_ (by omega)
      obtain ⟨bd, rfl⟩ := hr2.some_ (by omega)
      obtain ⟨h0, h1, h2, h3, h4⟩ := rq_read (hr.below hb) k l[k] (List.getElem?_eq_getElem hkx)
      obtain ⟨g0, g1, g2, g3, g4⟩ := rq_read (hr2.below hb) k l[k] (List.getElem?_eq_getElem hkx)
      generalize l[k] = y at h0 h1 h2 h3 h4 g0 g1 g2 g3 g4
      obtain ⟨r1, r2, r3, r4, r5⟩ := y
      simp only at h0 h1 h2 h3 h4 g0 g1 g2 g3 g4
      go_wp2
      go_quiet (fail)
      go_wp2
      exact ⟨⟨k + 1, by omega, by go_num, below_dr hb _⟩, by simp only [intOf]; omega⟩
    · obtain rfl : k = m := by omega
      go_wp2
      go_ret
      exact ⟨rfl, hb⟩
set_option maxRecDepth 100000 in
set_option maxHeartbeats 4000000 in
theorem plainRq (A : Option Addr) (n c : Nat) (l : List Rq) (w : World) (hr : Rds w 5 A n c (rqs l)) (hm : n ≤ 100000) :
    Calls Try.prog 18 #[.slice A n c] w fun e w' => ∃ A n c, e = .returned (.slice A n c) ∧ Below w.heap.size w w' ∧ Rds w' 5 A n c (rqs l) := by
  have HN : Hid (l.length = n) := by show _ = _; have := hr.len; rw [rqs_length] at this; omega
  go_enter Try.func18, Try.ntmps18
  go_wp2
  go_loopw [3, 8] (fun u i wr => ∃ k : Nat, k ≤ n ∧ i = .int .i64 k ∧ wr.ownsRow w.heap.size 63 5 u (l.take k).length (rqs (l.take k)) ∧ Below w.heap.size w wr) (fun _ i _ => n - (intOf i).toNat)
  case atStart => exact ⟨0, Nat.zero_le _, rfl, World.ownsRow_nil _ _ _ _, Below.refl _ _⟩
  case round =>
    obtain ⟨k, hk, rfl, ho, hb⟩ := hrel
    by_cases hlt : k < n
    · have hkx : k < l.length := by rw [HN.out]; exact hlt
      obtain ⟨ad, rfl⟩ := hr.some_ (by omega)
      obtain ⟨h0, h1, h2, h3, h4⟩ := rq_read (hr.below hb) k l[k] (List.getElem?_eq_getElem hkx)
      have HT : Hid (l.take (k + 1) = l.take k ++ [l[k]]) := List.take_succ_eq_append_getElem hkx
      have HL : Hid (((l.take k).length + 1) * 40 ≤ 140737488355328) := by
        have h2 : (l.take k).length ≤ k := by rw [List.length_take]; omega
        show _ ≤ _
        omega
      generalize l[k] = y at h0 h1 h2 h3 h4 HT
      obtain ⟨r1, r2, r3, r4, r5⟩ := y
      simp only at h0 h1 h2 h3 h4
      have hal2 : Below wr.heap.size wr ((wr.alloc (.cells #[.int .i64 r1, .int .i64 r2, .int .i64 r3, .int .i64 r4, .int .i64 r5] 28)).alloc (.cells #[.int .i64 r1, .int .i64 r2, .int .i64 r3, .int .i64 r4, .int .i64 r5] 63)) := below_al (below_al (Below.refl _ _) _) _
      have hr2 := rds_lit (wr.alloc (.cells #[.int .i64 r1, .int .i64 r2, .int .i64 r3, .int .i64 r4, .int .i64 r5] 28)) 63 5 1 (rqC ⟨r1, r2, r3, r4, r5⟩) rfl (by decide)
      rw [show (wr.alloc (.cells #[.int .i64 r1, .int .i64 r2, .int .i64 r3, .int .i64 r4, .int .i64 r5] 28)).heap.size = wr.heap.size + 1 by simp] at hr2
      have HA := Lib.hid hal2
      clear hal2
      go_wp2_with (at_builtin; refine apn (w0 := w) w.heap.size rfl _ _ 46 63 _ 5 40 (by rfl) Try.underlying46 info_rq2 rfl (by decide) (by decide) _ _ _ _ 1 1 (rqC ⟨r1, r2, r3, r4, r5⟩) (by rfl) (by rfl) hr2 (by intro u hu; simp [rqC] at hu; rcases hu with rfl | rfl | rfl | rfl | rfl <;> rfl) (own_below ho HA.out) (below_then hb hb.size HA.out) (Nat.le_trans hb.size HA.out.size) HL.out ?_; intro v1 w1 p1 p2 _ _)
      go_roundw
      case rel =>
        refine ⟨k + 1, by omega, by go_num, ?_, p2⟩
        rw [HT.out, rqs_append, rqs_one, List.length_append]
        exact p1
      case measure => simp only [intOf]; omega
    · obtain rfl : k = n := by omega
      rw [List.take_of_length_le (by rw [HN.out]; exact Nat.le_refl _)] at ho
      obtain ⟨A1, n1, c1, rfl, _, hr1⟩ := own_open ho
      go_wp2
      go_ret
      exact ⟨A1, n1, c1, rfl, hb, hr1⟩
end Go.Proofs.Ytdfncmhbbhmgfaa
