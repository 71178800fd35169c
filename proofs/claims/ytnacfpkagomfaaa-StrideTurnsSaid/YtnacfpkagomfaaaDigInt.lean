/- wherryref01: Int, told. -/
import Derived.Test.YtnacfpkagomfaaaDigPlus
namespace Go.Proofs.Ytnacfpkagomfaaa
open Go.RowKit
theorem or16 (u d : Int) (h0 : 0 ≤ u) (h1 : u < 281474976710656) (h2 : 0 ≤ d) (h3 : d < 65536) : bits BinOp.or IntKind.u64 (u * 65536) d = u * 65536 + d := by
  obtain ⟨k, rfl⟩ : ∃ k : Nat, u = k := ⟨u.toNat, by omega⟩
  obtain ⟨j, rfl⟩ : ∃ j : Nat, d = j := ⟨d.toNat, by omega⟩
  have e := u64_or_nat (k * 65536) j (by omega) (by omega)
  rw [nat_join 16 (k * 65536) j (by omega) (by omega)] at e
  rw [show (k : Int) * 65536 = ((k * 65536 : Nat) : Int) by omega, e]
  omega
theorem valD_drop1 {ds : List Int} {k : Nat} (h : k < ds.length) : valD (ds.drop k) = ds.getD k 0 + 65536 * valD (ds.drop (k + 1)) := by
  rw [show ds.drop k = ds[k] :: ds.drop (k + 1) by rw [List.getElem_cons_drop], valD, getD_get h]
theorem int_no {ds : List Int} (hd : Dig ds) (ht : Trimmed ds) {z : Int} (hv : valD ds = z.natAbs) (hn : 4 < ds.length) : fitB z = false := by
  have h1 := valD_ge hd ht (by intro e; rw [e] at hn; simp at hn)
  have h2 := pw_mono (show 4 ≤ ds.length - 1 by omega)
  rw [show pw 4 = 18446744073709551616 from rfl] at h2
  refine (fit_no ?_).2
  unfold I64
  omega
def IntR (z : Int) (e : Ending) : Prop := ∃ r, e = .returned (.tuple #[.int .i64 r, .bool (fitB z)]) ∧ (I64 z → r = z)
theorem intR_of {z r : Int} {b : Bool} (hb : b = fitB z) (hr : I64 z → r = z) : IntR z (.returned (.tuple #[.int .i64 r, .bool b])) := ⟨r, by rw [hb], hr⟩
set_option maxRecDepth 100000 in
set_option maxHeartbeats 2000000 in
theorem dInt (v : Value) (z : Int) (N : Nat) (w : World) (hv : Wd w v z N) :
    Calls Try.prog 35 #[v] w fun e w' => IntR z e ∧ Below w.heap.size w w' := by
  obtain ⟨A, n, c, a, rfl, hr, hd, ht, hva, hn⟩ := hv
  have HN := Lib.hid (u32s_len hr)
  by_cases h4 : 4 < n
  · have HF := Lib.hid (int_no hd ht hva (by rw [HN.out]; exact h4))
    have HR : Hid (∀ b, fitB z = b → IntR z (.returned (.tuple #[.int .i64 0, .bool b]))) := fun b hb => ⟨0, by rw [hb], fun h => by rw [(fit_yes h).2] at HF; cases HF.out⟩
    have h4' : (4 : Int) < n := by omega
    clear hva hd ht
    generalize decide (z < 0) = sz at *
    go_enter Try.func35, Try.ntmps35
    go_wp2
    go_ret2
    exact ⟨HR.out _ HF.out, below_al (Below.refl _ _) _⟩
  · have h4' : ¬ (4 : Int) < n := by omega
    have HVA := Lib.hid hva
    have HDD := Lib.hid hd
    have HZ : Hid (decide (z < 0) = decide (z < 0)) := rfl
    obtain ⟨sz, hsz⟩ : ∃ sz, sz = decide (z < 0) := ⟨_, rfl⟩
    rw [← hsz]
    have HSZ := Lib.hid hsz
    clear hva hd ht hsz HZ
    go_enter Try.func35, Try.ntmps35
    go_wp2
    go_loopw [4, 5] (fun u i wr => ∃ (k : Nat) (y : Int), k ≤ n ∧ i = .int .i64 ((k : Int) - 1) ∧ u = .int .u64 y ∧ 0 ≤ y ∧ Hid (y = valD (a.drop k)) ∧ Hid (y < pw (n - k)) ∧ wr = w.alloc (.cells #[.bool sz, .slice A n c] 50)) (fun _ i _ => (intOf i + 1).toNat)
    case atStart => exact ⟨n, 0, Nat.le_refl _, by go_num, rfl, by omega, by show _ = _; rw [List.drop_of_length_le (by rw [HN.out]; exact Nat.le_refl _)]; rfl, by show _ < _; rw [Nat.sub_self, pw_zero]; omega, rfl⟩
    case round =>
      obtain ⟨k, y, hk, rfl, rfl, hy0, HY, HP, rfl⟩ := hrel
      rcases Nat.eq_zero_or_pos k with h0 | h0
      · subst h0
        rw [show ((0 : Nat) : Int) - 1 = -1 by omega]
        have HBD : y < 18446744073709551616 := by
          have h1 := HP.out
          have h2 := pw_mono (show n - 0 ≤ 4 by omega)
          rw [show pw 4 = 18446744073709551616 from rfl] at h2
          omega
        have hy : y = z.natAbs := by rw [HY.out, List.drop_zero, HVA.out]
        have HYZ := Lib.hid hy
        clear hy HY HP
        have hbd : y < 18446744073709551616 := HBD
        cases sz with
        | false =>
          have HR : Hid (IntR z (.returned (.tuple #[.int .i64 (wrap64 y), .bool (decide (y ≤ 9223372036854775807))]))) := by
            have h1 : ¬ z < 0 := by have := HSZ.out; simp at this; omega
            refine intR_of ?_ (fun h => ?_)
            · have h2 := HYZ.out
              rw [show ((z.natAbs : Nat) : Int) = z by omega] at h2
              unfold fitB
              rw [Bool.eq_iff_iff, decide_eq_true_eq, decide_eq_true_eq]
              unfold I64
              constructor <;> intro h <;> omega
            · have := HYZ.out
              rw [wrap64_id (by unfold I64 at h ⊢; omega)]; omega
          go_wp2
          go_ret2
          exact ⟨HR.out, below_al (Below.refl _ _) _⟩
        | true =>
          have HR : Hid (IntR z (.returned (.tuple #[.int .i64 (wrap64 (IntKind.u64.wrap (-y))), .bool (decide (y ≤ 9223372036854775808))]))) := by
            have h1 : z < 0 := by have := HSZ.out; simp at this; omega
            refine intR_of ?_ (fun h => ?_)
            · have h2 := HYZ.out
              rw [show ((z.natAbs : Nat) : Int) = -z by omega] at h2
              unfold fitB
              rw [Bool.eq_iff_iff, decide_eq_true_eq, decide_eq_true_eq]
              unfold I64
              constructor <;> intro h <;> omega
            · have := HYZ.out
              rw [IntKind.wrap_u64]
              unfold I64 at h
              unfold wrap64
              omega
          go_wp2
          go_ret2
          exact ⟨HR.out, below_al (Below.refl _ _) _⟩
      · obtain ⟨j, rfl⟩ : ∃ j, k = j + 1 := ⟨k - 1, by omega⟩
        rw [show ((j + 1 : Nat) : Int) - 1 = j by omega]
        have hj : j < a.length := by rw [HN.out]; omega
        obtain ⟨ad, rfl⟩ := hr.some_ (by omega)
        have hca := hr.cell ad rfl j _ (nums_get .u32 a j hj)
        rw [getD_get hj] at hca
        have hda := dig_getD HDD.out j
        have hj1 : (j : Int) < n := by omega
        have hp := HP.out
        have hp2 := pw_mono (show n - (j + 1) ≤ 3 by omega)
        rw [show pw 3 = 281474976710656 from rfl] at hp2
        have hy1 : y < 281474976710656 := by omega
        have hnew : Hid (y * 65536 + a.getD j 0 = valD (a.drop j)) := by
          show _ = _
          rw [valD_drop1 hj, ← HY.out]; omega
        have hnewp : Hid (y * 65536 + a.getD j 0 < pw (n - j)) := by
          show _ < _
          rw [show n - j = (n - (j + 1)) + 1 by omega, pw_succ]; omega
        clear hp hp2 HY HP
        generalize a.getD j 0 = x at *
        have hor := or16 y x hy0 hy1 hda.1 hda.2
        have hlt : ad.block < w.heap.size := World.block_lt_of_cell? w _ (hr.cell ad rfl 0 _ (List.getElem?_eq_getElem (show 0 < (nums .u32 a).length by rw [hr.len]; omega)))
        have hca2 := cell_below (below_al (Below.refl _ _) (.cells #[.bool sz, .slice (some ad) n c] 50)) hca
        go_wp2
        go_roundw
        case rel => exact ⟨j, _, by omega, by go_num, rfl, by omega, hnew.out, hnewp.out, trivial⟩
        case measure => simp only [intOf]; omega
set_option maxRecDepth 100000 in
set_option maxHeartbeats 2000000 in
theorem dtold (v : Value) (z : Int) (N : Nat) (w : World) (hv : Wd w v z N) :
    Calls Try.prog 37 #[v] w fun e w' => e = .returned (.tuple #[.int .i64 (fitV z), .bool (fitB z)]) ∧ Below w.heap.size w w' := by
  obtain ⟨A, n, c, a, rfl, hr, hd⟩ := hv
  have HI := Lib.hid (fun W h => dInt (.agg #[.bool (decide (z < 0)), .slice A n c]) z N W ⟨A, n, c, a, rfl, h, hd⟩)
  generalize decide (z < 0) = sz at *
  have hr' := hr.below (below_al (Below.refl _ _) (.cells #[.bool sz, .slice A n c] 50))
  have HY : Hid (∀ r, (I64 z → r = z) → I64 z → fitV z = r) := fun r h1 h2 => by rw [(fit_yes h2).1, h1 h2]
  have HN : Hid (¬ I64 z → fitV z = 0) := fun h => (fit_no h).1
  by_cases hz : I64 z
  · have HZ := Lib.hid hz
    have hb := (fit_yes hz).2
    rw [hb]
    unfold IntR at HI
    rw [hb] at HI
    clear hd hr hz hb
    go_enter Try.func37, Try.ntmps37
    go_wp2_with (go_at_call 35; (with_reducible refine (HI.out _ hr').mono ?_); rintro e w1 ⟨⟨r, rfl, hr1⟩, hb1⟩; have HR := Lib.hid (HY.out r hr1 HZ.out); clear hr1)
    go_ret2
    exact ⟨by rw [HR.out]; rfl, below_tr (below_al (Below.refl _ _) _) hb1⟩
  · have hb := (fit_no hz).2
    have HZ := Lib.hid (HN.out hz)
    rw [hb]
    unfold IntR at HI
    rw [hb] at HI
    clear hd hr hz hb
    go_enter Try.func37, Try.ntmps37
    go_wp2_with (go_at_call 35; (with_reducible refine (HI.out _ hr').mono ?_); rintro e w1 ⟨⟨r, rfl, hr1⟩, hb1⟩; clear hr1)
    go_ret2
    exact ⟨by rw [HZ.out]; rfl, below_tr (below_al (Below.refl _ _) _) hb1⟩
end Go.Proofs.Ytnacfpkagomfaaa
