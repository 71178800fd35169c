/- Package ready: New; the document's examples. -/
import Derived.Test.YtabdipfpfbdghaaReadyTurn
namespace Go.Proofs.Ytabdipfpfbdghaa
open Go.RowKit
theorem info_row : (Try.prog.info? 55).map (fun i => (i.zero, i.size, i.bytes)) = some (some (.agg #[.int .i64 0, .int .i64 0, .int .i64 0, .int .i64 0]), 4, 32) := by kernel_rfl
theorem rows0 : ∀ n, rowsQ (List.replicate n row0) = List.replicate (n * 4) (Value.int .i64 0)
  | 0 => rfl
  | n + 1 => by
    have h := rows0 n
    unfold rowsQ at h ⊢
    rw [List.replicate_succ, List.map_cons, List.flatten_cons, h, show (n + 1) * 4 = 4 + n * 4 by omega, ← List.replicate_append_replicate]
    rfl
theorem made_rows (n : Nat) : (madeCells (Value.agg #[.int .i64 0, .int .i64 0, .int .i64 0, .int .i64 0]).cells (n * 4)).toList = rowsQ (List.replicate n row0) := by
  rw [rows0]
  apply List.ext_getElem?
  intro j
  rw [List.getElem?_replicate]
  show (madeCells #[Value.int .i64 0, .int .i64 0, .int .i64 0, .int .i64 0] (n * 4)).toList[j]? = _
  by_cases hj : j < n * 4
  · rw [if_pos hj]
    have h4 : j % 4 = 0 ∨ j % 4 = 1 ∨ j % 4 = 2 ∨ j % 4 = 3 := by omega
    rcases h4 with h | h | h | h <;> simp [madeCells, hj, h]
  · rw [if_neg hj]
    simp [madeCells, hj]
def newR (n : Nat) : QV := ⟨0, List.replicate n row0, newV n⟩
set_option maxHeartbeats 1000000 in
theorem qnewNo (z : Int) (w : World) (hz : z < 1 ∨ 4096 < z) : Calls Try.prog 6 #[.int .i64 z] w fun e w' => e = .returned (.pointer none) ∧ w = w' := by
  have HN := Lib.hid (hnewNo z w hz)
  clear hz
  go_enter Try.func6, Try.ntmps6
  go_wp2_with (go_at_call 24; (with_reducible refine HN.out.mono ?_); rintro e w1 ⟨rfl, rfl⟩)
  go_ret
  exact ⟨rfl, rfl⟩
set_option maxRecDepth 100000 in
set_option maxHeartbeats 4000000 in
theorem qnew (n : Nat) (z : Int) (hz : z = (n : Int)) (w : World) (h1 : 1 ≤ n) (h2 : n ≤ 4096) : Calls Try.prog 6 #[.int .i64 z] w fun e w' => ∃ b g hb, e = .returned (.pointer (some ⟨b, 0, none⟩)) ∧ Qx NoT w w' b g n hb n (newR n) := by
  have HN := Lib.hid (hnew n z hz w h1 h2)
  subst hz
  go_enter Try.func6, Try.ntmps6
  go_wp2_with (first
    | (go_at_call 24; (with_reducible refine HN.out.mono ?_); rintro e w1 ⟨⟨v, rfl, hv⟩, hb1⟩; obtain ⟨hb, gk, gp, cp, rfl, l1, l2, l3, hH⟩ := hv)
    | (at_make; refine mkn (w0 := w1) w.heap.size (by rfl) _ _ 38 55 _ 4 32 (by rfl) Try.underlying38 info_row _ _ _ _ n (by rfl) (by rfl) rfl rfl (by omega) (by unfold maxLen; omega) (Below.refl _ _) hb1.size ?_; intro w2 ho2 hb2 hg2))
  rw [made_rows] at ho2
  have hB2 : Below w1.heap.size w1 w2 := (Below.refl _ _).grown hg2 (Nat.le_refl _) (fun k hk => by cases hk)
  obtain ⟨W3, hW3⟩ : ∃ W3, W3 = w2.alloc (.cells #[.int .i64 0, .slice (some ⟨w1.heap.size, 0, none⟩) n n, .pointer (some ⟨hb, 0, none⟩)] (41 : Nat)) := ⟨_, rfl⟩
  have hB3 : Below w2.heap.size w2 W3 := by rw [hW3]; exact below_al (Below.refl _ _) _
  have x0 : Box W3 w2.heap.size 0 (.int .i64 0) := by rw [hW3]; constructor <;> go_simp
  have x1 : Box W3 w2.heap.size 1 (.slice (some ⟨w1.heap.size, 0, none⟩) n n) := by rw [hW3]; constructor <;> go_simp
  have x2 : Box W3 w2.heap.size 2 (.pointer (some ⟨hb, 0, none⟩)) := by rw [hW3]; constructor <;> go_simp
  rw [← hW3]
  have s1 := hH.ib.lt
  have s2 := (hH.kw.ko.lt gk rfl).2
  have s3 := (hH.po.lt gp rfl).2
  have s4 := (ho2.lt w1.heap.size rfl).2
  have s5 := hb1.size
  have s6 := hB2.size
  refine bodyPost_ret (results_tmp rfl _ _ _) rfl ⟨w2.heap.size, w1.heap.size, hb, rfl, ⟨gk, gp, n, cp, _, ⟨x0, x1, x2, own_below ho2 hB3, (hH.below hB2).below hB3, (new_ok n).1, by omega, (fun k e => by cases e), by omega, ⟨l1, l2, l3⟩⟩, fun k hk => hk.elim⟩, below_then (below_then hb1 hb1.size hB2) (by omega) hB3⟩
def qv1 : QV := joinR (newR 4) 0 1
def qv2 : QV := joinR qv1 1 1
def qv3 : QV := pickR qv2 0
def qv4 : QV := pickR qv3 1
def qv5 : QV := enterR qv4 0
def qv6 : QV := enterR qv5 1
set_option maxRecDepth 100000 in
set_option maxHeartbeats 4000000 in
/-- The document's examples. -/
theorem lives18 (w : World) : Calls Try.prog 5 #[] w fun e w' => e = .returned (.bool true) ∧ Below w.heap.size w w' := by
  have HN := Lib.hid (qnew 4 4 rfl w (by decide) (by decide))
  have H1 := Lib.hid (fun b g hb W (H : Qx NoT w W b g 4 hb 4 (newR 4)) => qjoin H (by decide) 0 0 1 rfl (by decide) (by decide) (by decide) (by rw [has_mem]; decide))
  have H2 := Lib.hid (fun b g hb W (H : Qx NoT w W b g 4 hb 4 qv1) => qjoin H (by decide) 1 1 1 rfl (by decide) (by decide) (by decide) (by rw [has_mem]; decide))
  have H3 := Lib.hid (fun b g hb W (H : Qx NoT w W b g 4 hb 4 qv2) => qpick H (by decide) 0 (by decide) (by decide) (by decide) (by decide) (by decide) (by decide))
  have H4 := Lib.hid (fun b g hb W (H : Qx NoT w W b g 4 hb 4 qv3) => qpick H (by decide) 1 (by decide) (by decide) (by decide) (by decide) (by decide) (by decide))
  have H5 := Lib.hid (fun b g hb W (H : Qx NoT w W b g 4 hb 4 qv4) => qback H (by decide) 0 0 rfl (by decide) (by decide) (by rw [has_mem]; decide) (by decide) (by decide))
  have H6 := Lib.hid (fun b g hb W (H : Qx NoT w W b g 4 hb 4 qv5) => qback H (by decide) 1 1 rfl (by decide) (by decide) (by rw [has_mem]; decide) (by decide) (by decide))
  have H7 := Lib.hid (fun b g hb W (H : Qx NoT w W b g 4 hb 4 qv6) => qpick H (by decide) 0 (by decide) (by decide) (by decide) (by decide) (by decide) (by decide))
  go_enter Try.func5, Try.ntmps5
  go_wp2_with (first
    | (go_at_call 6; (with_reducible refine HN.out.mono ?_); rintro e w1 ⟨b, g, hb, rfl, hX0⟩)
    | (go_at_call 7; (with_reducible refine (H1.out _ _ _ _ hX0).mono ?_); rintro e w2 ⟨rfl, hX1⟩)
    | (go_at_call 7; (with_reducible refine (H2.out _ _ _ _ hX1).mono ?_); rintro e w3 ⟨rfl, hX2⟩)
    | (go_at_call 13; (with_reducible refine (H3.out _ _ _ _ hX2).mono ?_); rintro e w4 ⟨rfl, hX3⟩)
    | (go_at_call 13; (with_reducible refine (H4.out _ _ _ _ hX3).mono ?_); rintro e w5 ⟨rfl, hX4⟩)
    | (go_at_call 8; (with_reducible refine (H5.out _ _ _ _ hX4).mono ?_); rintro e w6 ⟨rfl, hX5⟩)
    | (go_at_call 8; (with_reducible refine (H6.out _ _ _ _ hX5).mono ?_); rintro e w7 ⟨rfl, hX6⟩)
    | (go_at_call 13; (with_reducible refine (H7.out _ _ _ _ hX6).mono ?_); rintro e w8 ⟨rfl, hX7⟩))
  go_ret
  exact ⟨rfl, hX7.2⟩
end Go.Proofs.Ytabdipfpfbdghaa
