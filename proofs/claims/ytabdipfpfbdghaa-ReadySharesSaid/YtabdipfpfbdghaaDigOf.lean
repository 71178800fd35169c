/- wherryref01: Of. -/
import Derived.Test.YtabdipfpfbdghaaDigSize
import Derived.Test.YtabdipfpfbdghaaChg
import Derived.Laws.Bits64b
namespace Go.Proofs.Ytabdipfpfbdghaa
open Go.RowKit
/-- A wide number, as a value: its sign, and a slice of digits. -/
def Wd (w : World) (v : Value) (z : Int) (N : Nat) : Prop :=
  ∃ A n c ds, v = .agg #[.bool (decide (z < 0)), .slice A n c] ∧ Rds w 1 A n c (nums .u32 ds) ∧ Dig ds ∧ Trimmed ds ∧ valD ds = z.natAbs ∧ n ≤ N
theorem Wd.below {w w1 : World} {v : Value} {z : Int} {N : Nat} (h : Wd w v z N) (hb : Below w.heap.size w w1) : Wd w1 v z N := by
  obtain ⟨A, n, c, ds, e, hr, h1⟩ := h
  exact ⟨A, n, c, ds, e, hr.below hb, h1⟩
theorem info_u32 : (Try.prog.info? 93).map (fun i => (i.zero, i.size, i.bytes)) = some (some (.int .u32 0), 1, 4) := by kernel_rfl
theorem and16 (y : Int) (h0 : 0 ≤ y) (h1 : y < 18446744073709551616) : bits BinOp.and IntKind.u64 y 65535 = y % 65536 := by
  obtain ⟨k, rfl⟩ : ∃ k : Nat, y = k := ⟨y.toNat, by omega⟩
  have e := bits_and_u64_nat k 65535 (by omega) (by decide)
  have e2 : k &&& 65535 = k % 65536 := Nat.and_two_pow_sub_one_eq_mod k 16
  rw [e2] at e
  rw [show (65535 : Int) = ((65535 : Nat) : Int) from rfl, e]
  omega
theorem below_set {B : Nat} {w W : World} (h : Below B w W) (b o : Nat) (v : Value) (hb : B ≤ b) : Below B w (W.setCell ⟨b, o, none⟩ v) :=
  ⟨h.os, h.tape, h.output, by simpa using h.size, fun k hk => (heap_setCell_other W ⟨b, o, none⟩ k v (fun e => by have e2 : k = b := e; omega)).trans (h.block k hk)⟩
theorem ret_wide {fn : Func} {p : Tmp} (h : fn.results = #[.cell p 76]) {tmps : Array Value} {w : World} {b0 : Nat} {s1 s2 : Value} (hg : w.heap[b0]? = some (.cells #[s1, s2] 76 (0, 0))) (v1 v2 : Value) (hp : tmps.getD p undef = .pointer (some ⟨b0, 0, none⟩)) :
    (results fn tmps).run Try.prog ((w.setCell ⟨b0, 0, none⟩ v1).setCell ⟨b0, 1, none⟩ v2) = .ok (.agg #[v1, v2]) ((w.setCell ⟨b0, 0, none⟩ v1).setCell ⟨b0, 1, none⟩ v2) := by
  have h1 := heap_setCell_same w b0 0 #[s1, s2] 76 v1 hg
  have h2 := heap_setCell_same (w.setCell ⟨b0, 0, none⟩ v1) b0 1 _ 76 v2 h1
  exact results_cell_row h tmps _ b0 _ #[v1, v2] (0, 0) _ hp h2 Try.underlying76 rfl (by kernel_rfl)
theorem dig_push {ds : List Int} {u y : Int} {k : Nat} (hl : ds.length = k) (hy : 0 < y) (hv : u = valD ds + pw k * y) (hp : y < pw (4 - k)) (hk : k ≤ 4) (hd : Dig ds) :
    k < 4 ∧ u = valD (ds ++ [y % 65536]) + pw (k + 1) * (y / 65536) ∧ y / 65536 < pw (4 - (k + 1)) ∧ Dig (ds ++ [y % 65536]) ∧ (y / 65536 = 0 → Trimmed (ds ++ [y % 65536])) := by
  have hk4 : k < 4 := by
    rcases Nat.lt_or_ge k 4 with h | h
    · exact h
    · rw [show 4 - k = 0 by omega, pw_zero] at hp; omega
  refine ⟨hk4, ?_, ?_, ?_, ?_⟩
  · rw [valD_snoc, hl, pw_succ, Int.mul_assoc, Int.add_assoc, ← Int.mul_add, show y % 65536 + 65536 * (y / 65536) = y by omega]
    exact hv
  · rw [show 4 - k = (4 - (k + 1)) + 1 by omega, pw_succ] at hp
    omega
  · refine dig_append.2 ⟨hd, ?_⟩
    intro d hd'
    simp at hd'
    omega
  · intro h
    unfold Trimmed
    rw [List.getLast?_concat]
    intro e
    have := Option.some.inj e
    omega
set_option maxRecDepth 100000 in
set_option maxHeartbeats 2000000 in
theorem dOf (a : Int) (w : World) (ha : I64 a) :
    Calls Try.prog 59 #[.int .i64 a] w fun e w' => (∃ v, e = .returned v ∧ Wd w' v a 4) ∧ Below w.heap.size w w' := by
  unfold I64 at ha
  obtain ⟨h1, h2⟩ := ha
  have hw : a < 0 → IntKind.u64.wrap (-IntKind.u64.wrap a) = -a := by
    intro h
    unfold IntKind.wrap
    simp [IntKind.bits, IntKind.signed]
    omega
  have HW := Lib.hid hw
  clear hw
  obtain ⟨u, hu⟩ : ∃ u : Int, u = a.natAbs := ⟨_, rfl⟩
  have hu0 : 0 ≤ u := by omega
  have hu1 : u ≤ 9223372036854775808 := by omega
  have HU := Lib.hid hu
  have HP0 : Hid (u < pw (4 - 0)) := by show _ < _; rw [show pw (4 - 0) = 18446744073709551616 from rfl]; omega
  by_cases h0 : a < 0
  all_goals
    go_enter Try.func59, Try.ntmps59
    go_wp2
    first
    | rw [HW.out h0, show -a = u by rw [HU.out]; omega]
    | rw [show Value.int .u64 a = Value.int .u64 u by rw [HU.out]; congr 1; omega]
    clear hu
    obtain ⟨W0, hW0⟩ : ∃ W0, W0 = w.alloc (.cells #[.bool false, .slice none 0 0] 76) := ⟨_, rfl⟩
    have c0 : W0.cell? ⟨w.heap.size, 0, none⟩ = some (.bool false) := by rw [hW0]; go_simp
    have c1 : W0.cell? ⟨w.heap.size, 1, none⟩ = some (.slice none 0 0) := by rw [hW0]; go_simp
    have f0 : W0.frozen? ⟨w.heap.size, 0, none⟩ = false := by rw [hW0]; go_simp
    have f1 : W0.frozen? ⟨w.heap.size, 1, none⟩ = false := by rw [hW0]; go_simp
    have hg0 : W0.heap[w.heap.size]? = some (.cells #[.bool false, .slice none 0 0] 76 (0, 0)) := by rw [hW0]; exact heap_alloc_new w _
    have hB0 : Below w.heap.size w W0 := by rw [hW0]; exact below_al (Below.refl _ _) _
    have hlt0 : w.heap.size < W0.heap.size := by rw [hW0]; simp
    rw [← hW0]
    obtain ⟨b0, hb0⟩ : ∃ b0, b0 = w.heap.size := ⟨_, rfl⟩
    rw [show Value.pointer (some ⟨w.heap.size, 0, none⟩) = Value.pointer (some ⟨b0, 0, none⟩) by rw [hb0]]
    rw [← hb0] at c0 c1 f0 f1 hlt0 hg0
    have HB0 := Lib.hid hb0
    clear hb0 hW0
    go_loopw [3, 4] (fun x v wr => ∃ k : Nat, k ≤ 4 ∧ ∃ ds : List Int, Hid (ds.length = k) ∧ ∃ y : Int, x = .int .u64 y ∧ 0 ≤ y ∧ Hid (u = valD ds + pw k * y) ∧ Hid (y < pw (4 - k)) ∧ Hid (Dig ds) ∧ Hid (y = 0 → Trimmed ds) ∧ y ≤ 9223372036854775808 ∧ wr.ownsRow W0.heap.size 93 1 v k (nums .u32 ds) ∧ Below W0.heap.size W0 wr) (fun x _ _ => (intOf x).toNat)
    case atStart => exact ⟨0, by omega, [], rfl, u, rfl, hu0, by show _ = _; simp [valD, pw_zero], HP0.out, (by intro d hd; cases hd), fun _ => trimmed_nil, hu1, World.ownsRow_nil _ _ _ _, Below.refl _ _⟩
    case round =>
      obtain ⟨k, hk, ds, HDL, y, rfl, hy0, HV, HP, HD, HT, hy1, ho, hb⟩ := hrel
      by_cases hy : 0 < y
      · obtain ⟨p0, p1, p2, p3, p4⟩ := dig_push HDL.out hy HV.out HP.out hk HD.out
        have P1 := Lib.hid p1
        have P2 := Lib.hid p2
        have P3 := Lib.hid p3
        have P4 := Lib.hid p4
        have ha16 : bits BinOp.and IntKind.u64 y 65535 % 4294967296 = y % 65536 := by rw [and16 y hy0 (by omega)]; omega
        clear p1 p2 p3 p4 HV HP HD HT
        go_wp2_with (at_builtin; rw [ha16]; (refine ap1 (w0 := W0) W0.heap.size rfl _ _ 74 93 _ 4 (by rfl) Try.underlying74 info_u32 rfl (by decide) _ _ _ _ (by rfl) (by rfl) rfl ho hb hb.size (by omega) ?_); intro v1 w1 ho1 hb1 _ _)
        go_roundw
        case rel => exact ⟨k + 1, by omega, ds ++ [y % 65536], by show _ = _; rw [List.length_append, HDL.out]; rfl, y / 65536, rfl, by omega, P1.out, P2.out, P3.out, P4.out, by omega, by rw [nums_append]; exact ho1, hb1⟩
        case measure => simp only [intOf]; omega
      · obtain rfl : y = 0 := by omega
        have hc0 := cell_below hb c0
        have hc1 := cell_below hb c1
        have hf0 := (World.frozen?_of_block (a := ⟨b0, 0, none⟩) (hb.block b0 hlt0)).trans f0
        have hf1 := (World.frozen?_of_block (a := ⟨b0, 1, none⟩) (hb.block b0 hlt0)).trans f1
        have hval : Hid (valD ds = a.natAbs) := by
          show _ = _
          have := HV.out
          rw [Int.mul_zero, Int.add_zero] at this
          rw [← this, HU.out]
        have htr := HT.out rfl
        have HTR := Lib.hid htr
        obtain ⟨A, m, c, rfl, hm, _⟩ := own_open ho
        have hm' := hm.out
        subst hm'
        have ho2 := fun u1 u2 => own_rds' (ownsRow_setCell_below (ownsRow_setCell_below ho (a := ⟨b0, 0, none⟩) hlt0 u1) (a := ⟨b0, 1, none⟩) hlt0 u2)
        have hbe := fun u1 u2 => below_set (below_set (below_then hB0 hB0.size hb) b0 0 u1 (by rw [HB0.out]; exact Nat.le_refl _)) b0 1 u2 (by rw [HB0.out]; exact Nat.le_refl _)
        have hgw := (hb.block b0 hlt0).trans hg0
        clear htr HV HP HT
        go_wp2
        refine bodyPost_ret (ret_wide rfl hgw _ _ (by rfl)) rfl ?_
        exact ⟨⟨_, rfl, A, m, c, ds, by simp [h0], (ho2 _ _).2, HD.out, HTR.out, hval.out, by omega⟩, hbe _ _⟩
end Go.Proofs.Ytabdipfpfbdghaa
