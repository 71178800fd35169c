/- Package num: differences of wide ones, Near. -/
import Derived.Test.YtnacfpkagomfaaaNumC
import Derived.Test.YtnacfpkagomfaaaChg
import Derived.Laws.Externs
import Derived.Shelf.Spec.BitsCarry
namespace Go.Proofs.Ytnacfpkagomfaaa
open Go.RowKit
theorem run_add64N (x y c : Nat) (hx : x < 18446744073709551616) (hy : y < 18446744073709551616) (hc : c ≤ 1) (w : World) :
    (callFunc 58 #[.int .u64 x, .int .u64 y, .int .u64 c]).run Try.prog w = .ok (.value (.tuple #[.int .u64 (((x + y + c) % 18446744073709551616 : Nat) : Int), .int .u64 (((x + y + c) / 18446744073709551616 : Nat) : Int)])) w := by
  rw [run_callFunc_extern Try.func58 (by kernel_rfl) (by kernel_rfl) (by kernel_rfl) (e := add64Entry) (by kernel_rfl), Go.run_add64 x y c (by omega) (by omega) (by omega) (by omega)]
  simp only [Result.andThen]
  congr 5 <;> omega
theorem run_sub64' (x y b : Nat) (hb : b ≤ 1) (w : World) :
    (callFunc 59 #[.int .u64 x, .int .u64 y, .int .u64 b]).run Try.prog w = .ok (.value (.tuple #[.int .u64 (((x + 18446744073709551616 - y - b) % 18446744073709551616 : Nat) : Int), .int .u64 ((if x < y + b then 1 else 0 : Nat) : Int)])) w := by
  rw [run_callFunc_extern Try.func59 (by kernel_rfl) (by kernel_rfl) (by kernel_rfl) (e := sub64Entry) (by kernel_rfl), run_sub64 x y b hb]
  rfl
theorem wide_nat (n : Nat) : wideV (n : Int) = .agg #[.bool false, .int .u64 ((n / 18446744073709551616 : Nat) : Int), .int .u64 ((n % 18446744073709551616 : Nat) : Int)] := by
  have h : ¬ (n : Int) < 0 := by omega
  simp [wideV, hiN, loN, h]
/-- A sum in words. -/
theorem sum_words {h l h' l' : Nat} (hh : h ≤ 4611686018427387904) (hh' : h' ≤ 4611686018427387904) (hl : l < 18446744073709551616) (hl' : l' < 18446744073709551616) :
    (h + h' + (l + l' + 0) / 18446744073709551616) % 18446744073709551616 = (h * 18446744073709551616 + l + (h' * 18446744073709551616 + l')) / 18446744073709551616 ∧ (h + h' + (l + l' + 0) / 18446744073709551616) / 18446744073709551616 = 0 ∧
    (l + l' + 0) % 18446744073709551616 = (h * 18446744073709551616 + l + (h' * 18446744073709551616 + l')) % 18446744073709551616 := by omega
/-- A difference in words. -/
theorem diff_words {h l h' l' : Nat} (hh : h ≤ 4611686018427387904) (hl : l < 18446744073709551616) (hl' : l' < 18446744073709551616) (hle : h' * 18446744073709551616 + l' ≤ h * 18446744073709551616 + l) :
    (h + 18446744073709551616 - h' - (if l < l' + 0 then 1 else 0)) % 18446744073709551616 = (h * 18446744073709551616 + l - (h' * 18446744073709551616 + l')) / 18446744073709551616 ∧
    (l + 18446744073709551616 - l' - 0) % 18446744073709551616 = (h * 18446744073709551616 + l - (h' * 18446744073709551616 + l')) % 18446744073709551616 := by
  split <;> omega
theorem abs_diff_sum {p q : Int} (h : decide (p < 0) ≠ decide (q < 0)) : (p - q).natAbs = p.natAbs + q.natAbs := by
  by_cases h1 : p < 0 <;> by_cases h2 : q < 0 <;> simp [h1, h2] at h <;> omega
theorem abs_diff_sub {p q : Int} (h : decide (p < 0) = decide (q < 0)) (hle : q.natAbs ≤ p.natAbs) : (p - q).natAbs = p.natAbs - q.natAbs := by
  by_cases h1 : p < 0 <;> by_cases h2 : q < 0 <;> simp [h1, h2] at h <;> omega
theorem abs_diff_comm (p q : Int) : (p - q).natAbs = (q - p).natAbs := by omega
/-- A wide one in a block of its own. -/
structure BoxW (w : World) (b : Nat) (n : Bool) (h l : Nat) : Prop where
  c0 : Box w b 0 (.bool n)
  c1 : Box w b 1 (.int .u64 h)
  c2 : Box w b 2 (.int .u64 l)
theorem BoxW.below {w w1 : World} {b : Nat} {n : Bool} {h l : Nat} (k : BoxW w b n h l) (hb : Below w.heap.size w w1) : BoxW w1 b n h l := ⟨k.c0.below hb, k.c1.below hb, k.c2.below hb⟩
theorem BoxW.new (w : World) (n : Bool) (h l : Nat) (e : TypeId) : BoxW (w.alloc (.cells #[.bool n, .int .u64 h, .int .u64 l] e)) w.heap.size n h l := by
  constructor <;> constructor <;> go_simp
set_option maxRecDepth 100000 in
set_option maxHeartbeats 4000000 in
theorem ndiff (p q : Int) (hp : p.natAbs ≤ 85070591730234615865843651857942052864) (hq : q.natAbs ≤ 85070591730234615865843651857942052864) (w : World) :
    Calls Try.prog 52 #[wideV p, wideV q] w fun e w' => e = .returned (.tuple #[wideV ((p - q).natAbs : Int), .bool false]) ∧ Below w.heap.size w w' := by
  have hh := hi_lt hp
  have hh' := hi_lt hq
  have hl := lo_lt p
  have hl' := lo_lt q
  have HP := Lib.hid (abs_hl p)
  have HQ := Lib.hid (abs_hl q)
  have HB := Lib.hid (fun W => nbigger (decide (p < 0)) (hiN p) (loN p) (decide (q < 0)) (hiN q) (loN q) W)
  rw [bigV_size] at HB
  rw [wide_nat]
  unfold wideV
  by_cases hs : decide (p < 0) = decide (q < 0)
  · by_cases hle : q.natAbs ≤ p.natAbs
    · have HA := Lib.hid (abs_diff_sub hs (by omega : q.natAbs ≤ p.natAbs))
      rw [HA.out, HP.out, HQ.out]
      have hle2 : hiN q * 18446744073709551616 + loN q ≤ hiN p * 18446744073709551616 + loN p := by rw [← HP.out, ← HQ.out]; omega
      have H1 := Lib.hid (diff_words (h := hiN p) (l := loN p) (h' := hiN q) (l' := loN q) hh hl hl' hle2)
      have HX : Hid (∀ w, (callFunc 59 #[.int .u64 (loN p), .int .u64 (loN q), .int .u64 0]).run Try.prog w = _) := fun w => run_sub64' (loN p) (loN q) 0 (by omega) w
      have hc : (if loN p < loN q + 0 then 1 else 0 : Nat) ≤ 1 := by split <;> omega
      have HY : Hid (∀ w, (callFunc 59 #[.int .u64 (hiN p), .int .u64 (hiN q), .int .u64 ((if loN p < loN q + 0 then 1 else 0 : Nat) : Int)]).run Try.prog w = _) := fun w => run_sub64' (hiN p) (hiN q) _ hc w
      rw [H1.out.1] at HY
      rw [H1.out.2] at HX
      generalize (if loN p < loN q + 0 then 1 else 0 : Nat) = c at *
      generalize (if hiN p < hiN q + c then 1 else 0 : Nat) = c2 at *
      generalize (hiN p * 18446744073709551616 + loN p - (hiN q * 18446744073709551616 + loN q)) / 18446744073709551616 = H at *
      generalize (hiN p * 18446744073709551616 + loN p - (hiN q * 18446744073709551616 + loN q)) % 18446744073709551616 = L at *
      have hz : 0 ≤ sizeCmp p q := by unfold sizeCmp; split <;> (try split) <;> omega
      generalize sizeCmp p q = z at *
      clear H1 HP HQ HA hh hh' hl hl' hp hq hc hle2 hle
      generalize hiN p = h1 at *
      generalize loN p = l1 at *
      generalize hiN q = h2 at *
      generalize loN q = l2 at *
      generalize decide (p < 0) = b1 at *
      generalize decide (q < 0) = b2 at *
      subst hs
      have hx := HX.out
      have hy := HY.out
      clear HX HY
      go_enter Try.func52, Try.ntmps52
      have B1 := ((BoxW.new w b1 h1 l1 69).below (below_al (Below.refl _ _) (.cells #[.bool b1, .int .u64 h2, .int .u64 l2] 69))).below (below_al (Below.refl _ _) (.cells #[.bool false, .int .u64 0, .int .u64 0] 69))
      have B2 := (BoxW.new (w.alloc (.cells #[.bool b1, .int .u64 h1, .int .u64 l1] 69)) b1 h2 l2 69).below (below_al (Below.refl _ _) (.cells #[.bool false, .int .u64 0, .int .u64 0] 69))
      have B3 := BoxW.new ((w.alloc (.cells #[.bool b1, .int .u64 h1, .int .u64 l1] 69)).alloc (.cells #[.bool b1, .int .u64 h2, .int .u64 l2] 69)) false 0 0 69
      have B0 : Below w.heap.size w (((w.alloc (.cells #[.bool b1, .int .u64 h1, .int .u64 l1] 69)).alloc (.cells #[.bool b1, .int .u64 h2, .int .u64 l2] 69)).alloc (.cells #[.bool false, .int .u64 0, .int .u64 0] 69)) := below_al (below_al (below_al (Below.refl _ _) _) _) _
      go_upto_region 5 with fail
      rw [show ((w.alloc (.cells #[.bool b1, .int .u64 h1, .int .u64 l1] 69)).alloc (.cells #[.bool b1, .int .u64 h2, .int .u64 l2] 69)).heap.size = w.heap.size + 1 + 1 by simp] at B3
      rw [show (w.alloc (.cells #[.bool b1, .int .u64 h1, .int .u64 l1] 69)).heap.size = w.heap.size + 1 by simp] at B2
      generalize (((w.alloc (.cells #[.bool b1, .int .u64 h1, .int .u64 l1] 69)).alloc (.cells #[.bool b1, .int .u64 h2, .int .u64 l2] 69)).alloc (.cells #[.bool false, .int .u64 0, .int .u64 0] 69)) = W3 at B0 B1 B2 B3 ⊢
      have k2 : (w.heap.size : Nat) ≠ w.heap.size + 1 := by omega
      generalize hbz : w.heap.size = bz at B1 B2 B3 ⊢
      have HBZ := Lib.hid hbz
      clear hbz k2
      have a0 := B1.c0.cell
      have a1 := B1.c1.cell
      have a2 := B1.c2.cell
      have b0 := B2.c0.cell
      have b1' := B2.c1.cell
      have b2' := B2.c2.cell
      go_wp2_with ((with_reducible refine (HB.out _).mono ?_); rintro e w1 ⟨rfl, hb1⟩; have D1 := B1.below hb1; have D2 := B2.below hb1; have D3 := B3.below hb1; have e0 := D1.c0.cell; have e1 := D1.c1.cell; have e2 := D1.c2.cell; have e3 := D2.c0.cell; have e4 := D2.c1.cell; have e5 := D2.c2.cell; have e6 := D3.c0.cell; have e7 := D3.c1.cell; have e8 := D3.c2.cell; have f0 := D1.c0.free; have f1 := D1.c1.free; have f2 := D1.c2.free; have f3 := D2.c0.free; have f4 := D2.c1.free; have f5 := D2.c2.free; have f6 := D3.c0.free; have f7 := D3.c1.free; have f8 := D3.c2.free)
      have hz0 : w.heap.size ≤ bz := by have := HBZ.out; omega
      have hz1 : w.heap.size ≤ bz + 1 := by have := HBZ.out; omega
      have hz2 : w.heap.size ≤ bz + 1 + 1 := by have := HBZ.out; omega
      have hbb := below_tr B0 hb1
      refine bodyPost_ret (v := .tuple #[.agg #[.bool false, .int .u64 H, .int .u64 L], .bool false]) (by simp [results, Try.results52, go_sem, e6, e7, e8]) rfl ⟨rfl, ?_⟩
      exact ((hbb.setCell (p := ⟨bz + 1 + 1, 0, none⟩) hz2 _).setCell (p := ⟨bz + 1 + 1, 1, none⟩) hz2 _).setCell (p := ⟨bz + 1 + 1, 2, none⟩) hz2 _
    · have HA := Lib.hid (abs_diff_sub hs.symm (by omega : p.natAbs ≤ q.natAbs))
      rw [abs_diff_comm p q]
      rw [HA.out, HQ.out, HP.out]
      have hle2 : hiN p * 18446744073709551616 + loN p ≤ hiN q * 18446744073709551616 + loN q := by rw [← HP.out, ← HQ.out]; omega
      have H1 := Lib.hid (diff_words (h := hiN q) (l := loN q) (h' := hiN p) (l' := loN p) hh' hl' hl hle2)
      have HX : Hid (∀ w, (callFunc 59 #[.int .u64 (loN q), .int .u64 (loN p), .int .u64 0]).run Try.prog w = _) := fun w => run_sub64' (loN q) (loN p) 0 (by omega) w
      have hc : (if loN q < loN p + 0 then 1 else 0 : Nat) ≤ 1 := by split <;> omega
      have HY : Hid (∀ w, (callFunc 59 #[.int .u64 (hiN q), .int .u64 (hiN p), .int .u64 ((if loN q < loN p + 0 then 1 else 0 : Nat) : Int)]).run Try.prog w = _) := fun w => run_sub64' (hiN q) (hiN p) _ hc w
      rw [H1.out.1] at HY
      rw [H1.out.2] at HX
      generalize (if loN q < loN p + 0 then 1 else 0 : Nat) = c at *
      generalize (if hiN q < hiN p + c then 1 else 0 : Nat) = c2 at *
      generalize (hiN q * 18446744073709551616 + loN q - (hiN p * 18446744073709551616 + loN p)) / 18446744073709551616 = H at *
      generalize (hiN q * 18446744073709551616 + loN q - (hiN p * 18446744073709551616 + loN p)) % 18446744073709551616 = L at *
      have hz : sizeCmp p q < 0 := by unfold sizeCmp; split <;> (try split) <;> omega
      generalize sizeCmp p q = z at *
      clear H1 HP HQ HA hh hh' hl hl' hp hq hc hle2 hle
      generalize hiN p = h1 at *
      generalize loN p = l1 at *
      generalize hiN q = h2 at *
      generalize loN q = l2 at *
      generalize decide (p < 0) = b1 at *
      generalize decide (q < 0) = b2 at *
      subst hs
      have hx := HX.out
      have hy := HY.out
      clear HX HY
      go_enter Try.func52, Try.ntmps52
      have B1 := ((BoxW.new w b1 h1 l1 69).below (below_al (Below.refl _ _) (.cells #[.bool b1, .int .u64 h2, .int .u64 l2] 69))).below (below_al (Below.refl _ _) (.cells #[.bool false, .int .u64 0, .int .u64 0] 69))
      have B2 := (BoxW.new (w.alloc (.cells #[.bool b1, .int .u64 h1, .int .u64 l1] 69)) b1 h2 l2 69).below (below_al (Below.refl _ _) (.cells #[.bool false, .int .u64 0, .int .u64 0] 69))
      have B3 := BoxW.new ((w.alloc (.cells #[.bool b1, .int .u64 h1, .int .u64 l1] 69)).alloc (.cells #[.bool b1, .int .u64 h2, .int .u64 l2] 69)) false 0 0 69
      have B0 : Below w.heap.size w (((w.alloc (.cells #[.bool b1, .int .u64 h1, .int .u64 l1] 69)).alloc (.cells #[.bool b1, .int .u64 h2, .int .u64 l2] 69)).alloc (.cells #[.bool false, .int .u64 0, .int .u64 0] 69)) := below_al (below_al (below_al (Below.refl _ _) _) _) _
      go_upto_region 5 with fail
      rw [show ((w.alloc (.cells #[.bool b1, .int .u64 h1, .int .u64 l1] 69)).alloc (.cells #[.bool b1, .int .u64 h2, .int .u64 l2] 69)).heap.size = w.heap.size + 1 + 1 by simp] at B3
      rw [show (w.alloc (.cells #[.bool b1, .int .u64 h1, .int .u64 l1] 69)).heap.size = w.heap.size + 1 by simp] at B2
      generalize (((w.alloc (.cells #[.bool b1, .int .u64 h1, .int .u64 l1] 69)).alloc (.cells #[.bool b1, .int .u64 h2, .int .u64 l2] 69)).alloc (.cells #[.bool false, .int .u64 0, .int .u64 0] 69)) = W3 at B0 B1 B2 B3 ⊢
      have k2 : (w.heap.size : Nat) ≠ w.heap.size + 1 := by omega
      generalize hbz : w.heap.size = bz at B1 B2 B3 ⊢
      have HBZ := Lib.hid hbz
      clear hbz k2
      have a0 := B1.c0.cell
      have a1 := B1.c1.cell
      have a2 := B1.c2.cell
      have b0 := B2.c0.cell
      have b1' := B2.c1.cell
      have b2' := B2.c2.cell
      go_wp2_with ((with_reducible refine (HB.out _).mono ?_); rintro e w1 ⟨rfl, hb1⟩; have D1 := B1.below hb1; have D2 := B2.below hb1; have D3 := B3.below hb1; have e0 := D1.c0.cell; have e1 := D1.c1.cell; have e2 := D1.c2.cell; have e3 := D2.c0.cell; have e4 := D2.c1.cell; have e5 := D2.c2.cell; have e6 := D3.c0.cell; have e7 := D3.c1.cell; have e8 := D3.c2.cell; have f0 := D1.c0.free; have f1 := D1.c1.free; have f2 := D1.c2.free; have f3 := D2.c0.free; have f4 := D2.c1.free; have f5 := D2.c2.free; have f6 := D3.c0.free; have f7 := D3.c1.free; have f8 := D3.c2.free)
      have hz0 : w.heap.size ≤ bz := by have := HBZ.out; omega
      have hz1 : w.heap.size ≤ bz + 1 := by have := HBZ.out; omega
      have hz2 : w.heap.size ≤ bz + 1 + 1 := by have := HBZ.out; omega
      have hbb := below_tr B0 hb1
      refine bodyPost_ret (v := .tuple #[.agg #[.bool false, .int .u64 H, .int .u64 L], .bool false]) (by simp [results, Try.results52, go_sem, e6, e7, e8]) rfl ⟨rfl, ?_⟩
      exact ((((((((hbb.setCell (p := ⟨bz, 0, none⟩) hz0 _).setCell (p := ⟨bz, 1, none⟩) hz0 _).setCell (p := ⟨bz, 2, none⟩) hz0 _).setCell (p := ⟨bz + 1, 0, none⟩) hz1 _).setCell (p := ⟨bz + 1, 1, none⟩) hz1 _).setCell (p := ⟨bz + 1, 2, none⟩) hz1 _).setCell (p := ⟨bz + 1 + 1, 0, none⟩) hz2 _).setCell (p := ⟨bz + 1 + 1, 1, none⟩) hz2 _).setCell (p := ⟨bz + 1 + 1, 2, none⟩) hz2 _
  · have HA := Lib.hid (abs_diff_sum hs)
    rw [HA.out, HP.out, HQ.out]
    have H1 := Lib.hid (sum_words hh hh' hl hl')
    have hc : (loN p + loN q + 0) / 18446744073709551616 ≤ 1 := by omega
    have HX : Hid (∀ w, (callFunc 58 #[.int .u64 (loN p), .int .u64 (loN q), .int .u64 0]).run Try.prog w = _) := fun w => run_add64N (loN p) (loN q) 0 hl hl' (by omega) w
    have HY : Hid (∀ w, (callFunc 58 #[.int .u64 (hiN p), .int .u64 (hiN q), .int .u64 (((loN p + loN q + 0) / 18446744073709551616 : Nat) : Int)]).run Try.prog w = _) := fun w => run_add64N (hiN p) (hiN q) _ (by omega) (by omega) hc w
    rw [H1.out.1, H1.out.2.1] at HY
    rw [H1.out.2.2] at HX
    generalize (loN p + loN q + 0) / 18446744073709551616 = c at *
    generalize (hiN p * 18446744073709551616 + loN p + (hiN q * 18446744073709551616 + loN q)) / 18446744073709551616 = H at *
    generalize (hiN p * 18446744073709551616 + loN p + (hiN q * 18446744073709551616 + loN q)) % 18446744073709551616 = L at *
    clear H1 HP HQ HA hh hh' hl hl' hp hq hc
    generalize hiN p = h1 at *
    generalize loN p = l1 at *
    generalize hiN q = h2 at *
    generalize loN q = l2 at *
    generalize decide (p < 0) = b1 at *
    generalize decide (q < 0) = b2 at *
    have hx := HX.out
    have hy := HY.out
    have hbb : (b1 == b2) = false := by simp; exact hs
    clear HX HY hs
    go_enter Try.func52, Try.ntmps52
    go_wp2
    refine bodyPost_ret (v := .tuple #[.agg #[.bool false, .int .u64 H, .int .u64 L], .bool false]) (by simp [results, Try.results52, go_sem]) rfl ⟨rfl, below_al (below_al (below_al (Below.refl _ _) _) _) _⟩
end Go.Proofs.Ytnacfpkagomfaaa
