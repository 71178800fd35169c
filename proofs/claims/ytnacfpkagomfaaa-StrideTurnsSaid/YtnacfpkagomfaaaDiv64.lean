/- math/bits: Len64, LeadingZeros64, Div64. -/
import Derived.Test.YtnacfpkagomfaaaRows
import Derived.Test.YtnacfpkagomfaaaBase
import Derived.Test.YtnacfpkagomfaaaNumPlain
import Derived.Test.YtnacfpkagomfaaaDiv64Plain
import Derived.Test.YtnacfpkagomfaaaLen64
import Derived.Lib.ItoaNum
import Derived.Laws.Bits64b
import Derived.Deep.CutBlock
import Derived.Shelf.Bits.Mul64
namespace Go.Proofs.Ytnacfpkagomfaaa
open Go.RowKit
set_option maxHeartbeats 1000000 in
/-- The shift that brings the first one bit to the word's begin. -/
theorem blz64 (y : Nat) (w : World) (hy : 0 < y) (h1 : y < 18446744073709551616) :
    Calls Try.prog 45 #[.int .u64 y] w fun e w' => (∃ s : Nat, e = .returned (.int .i64 s) ∧ s ≤ 63 ∧ 9223372036854775808 ≤ y * 2 ^ s ∧ y * 2 ^ s < 18446744073709551616) ∧ w = w' := by
  have hb := Lib.bitLenAux_bounds 64 y (by simpa using h1) (by omega)
  have hl : Lib.bitLen y ≤ 64 := Lib.bitLen_le y 64 (Nat.le_refl _) (by simpa using h1)
  have HL := Lib.hid (blen64 (y : Int) w (by omega) (by omega))
  have e0 : ((y : Int)).toNat = y := by simp
  rw [e0] at HL
  obtain ⟨k, hk⟩ : ∃ k, Lib.bitLen y = k := ⟨_, rfl⟩
  have hk2 : Lib.bitLenAux 64 y = k := hk
  rw [hk2] at hb
  rw [hk] at HL hl
  obtain ⟨k1, k2, k3⟩ := hb
  have hs : 9223372036854775808 ≤ y * 2 ^ (64 - k) ∧ y * 2 ^ (64 - k) < 18446744073709551616 := by
    have e1 : (2 : Nat) ^ (k - 1) * 2 ^ (64 - k) = 9223372036854775808 := by rw [← Nat.pow_add, show k - 1 + (64 - k) = 63 by omega]
    have e2 : (2 : Nat) ^ k * 2 ^ (64 - k) = 18446744073709551616 := by rw [← Nat.pow_add, show k + (64 - k) = 64 by omega]
    have hp : 0 < 2 ^ (64 - k) := Nat.two_pow_pos _
    rw [← e1, ← e2]
    exact ⟨Nat.mul_le_mul_right _ k2, Nat.mul_lt_mul_of_pos_right k3 hp⟩
  have HS := Lib.hid hs
  clear hs k2 k3 hk hk2 e0
  go_enter Try.func45, Try.ntmps45
  go_wp2_with (go_at_call 57; refine HL.out.mono ?_; rintro e w' ⟨rfl, rfl⟩)
  go_ret
  exact ⟨⟨64 - k, ret_int (by omega), by omega, HS.out⟩, rfl⟩
theorem ret_uu {a b c d : Int} (h : a = c) (h' : b = d) : Ending.returned (.tuple #[.int .u64 a, .int .u64 b]) = .returned (.tuple #[.int .u64 c, .int .u64 d]) := by rw [h, h']
set_option maxRecDepth 100000 in
set_option maxHeartbeats 1000000 in
theorem bdiv64_0 (lo y : Nat) (w : World) (hlo : lo < 18446744073709551616) (hy0 : 0 < y) (hy : y < 18446744073709551616) :
    Calls Try.prog 30 #[.int .u64 0, .int .u64 lo, .int .u64 y] w fun e w' => e = .returned (.tuple #[.int .u64 ((lo / y : Nat) : Int), .int .u64 ((lo % y : Nat) : Int)]) ∧ ∃ n, w' = w.drewN n := by
  have b0 : ((y : Int) == 0) = false := by simp; omega
  have e1 : (lo : Int) / (y : Int) = ((lo / y : Nat) : Int) := rfl
  have e2 : (lo : Int) % (y : Int) = ((lo % y : Nat) : Int) := rfl
  have hle : lo / y ≤ lo := Nat.div_le_self _ _
  have hlm : lo % y < y := Nat.mod_lt _ hy0
  have hyl : ¬ (y : Int) ≤ 0 := by omega
  have z2 : ((lo / y : Nat) : Int) ≤ lo := by exact_mod_cast hle
  have z3 : (lo : Int) < 18446744073709551616 := by omega
  have E1 : Hid (IntKind.u64.wrap ((lo : Int) / (y : Int)) = ((lo / y : Nat) : Int)) := Mul64.wrapN _ (Nat.lt_of_le_of_lt hle hlo)
  have E2 : Hid (IntKind.u64.wrap ((lo : Int) % (y : Int)) = ((lo % y : Nat) : Int)) := Mul64.wrapN _ (Nat.lt_trans hlm hy)
  have z4 : (0 : Int) < y := by omega
  clear e1 e2 hlo hy hle hlm z2 hy0 z3 hyl
  go_enter Try.func30, Try.ntmps30
  go_wp2
  go_quiet (fail)
  go_wp2
  go_ret2
  refine ⟨ret_uu ?_ ?_, _, rfl⟩
  · first | rfl | exact E1.out
  · first | rfl | exact E2.out
theorem pow_cast (s : Nat) : (2 : Int) ^ s = ((2 ^ s : Nat) : Int) := by simp
theorem shl_small {y s : Nat} (h : y * 2 ^ s < 18446744073709551616) : IntKind.u64.wrap ((y : Int) * 2 ^ s) = ((y * 2 ^ s : Nat) : Int) := by
  rw [pow_cast, ← Int.natCast_mul]
  exact Mul64.wrapN _ h
theorem shl_any (y s : Nat) : IntKind.u64.wrap ((y : Int) * 2 ^ s) = ((y * 2 ^ s % 18446744073709551616 : Nat) : Int) := by
  rw [pow_cast, ← Int.natCast_mul]
  exact Mul64.wrapM _
theorem or_words {h l s : Nat} (hs : s ≤ 63) (hh : h * 2 ^ s < 18446744073709551616) (hl : l < 18446744073709551616) :
    bits .or .u64 (IntKind.u64.wrap ((h : Int) * 2 ^ s)) ((l : Int) / 2 ^ (64 - s)) = ((h * 2 ^ s + l / 2 ^ (64 - s) : Nat) : Int) := by
  have hlt : l / 2 ^ (64 - s) < 2 ^ s := by
    rw [Nat.div_lt_iff_lt_mul (Nat.two_pow_pos _), ← Nat.pow_add, show s + (64 - s) = 64 by omega]
    exact hl
  have hle : l / 2 ^ (64 - s) < 18446744073709551616 := Nat.lt_of_le_of_lt (Nat.div_le_self _ _) hl
  rw [shl_small hh, pow_cast, ← Int.natCast_ediv]
  have e := Nat.two_pow_add_eq_or_of_lt hlt h
  rw [bits_or_u64_nat _ _ hh hle, Nat.mul_comm h, ← e]
theorem split_words {h l s y : Nat} (hs : s ≤ 63) (hl : l < 18446744073709551616) (hy : h < y) (_hY : y * 2 ^ s < 18446744073709551616) :
    h * 2 ^ s + l / 2 ^ (64 - s) < y * 2 ^ s ∧ (h * 18446744073709551616 + l) * 2 ^ s = (h * 2 ^ s + l / 2 ^ (64 - s)) * 18446744073709551616 + l * 2 ^ s % 18446744073709551616 := by
  have hp : 0 < 2 ^ s := Nat.two_pow_pos s
  have hlt : l / 2 ^ (64 - s) < 2 ^ s := by
    rw [Nat.div_lt_iff_lt_mul (Nat.two_pow_pos _), ← Nat.pow_add, show s + (64 - s) = 64 by omega]
    exact hl
  have e64 : 18446744073709551616 = 2 ^ (64 - s) * 2 ^ s := by rw [← Nat.pow_add, show 64 - s + s = 64 by omega]
  have ed : l * 2 ^ s / 18446744073709551616 = l / 2 ^ (64 - s) := by
    rw [e64, ← Nat.div_div_eq_div_mul, Nat.mul_comm l, Nat.div_div_eq_div_mul, Nat.mul_comm (2 ^ (64 - s)), ← Nat.div_div_eq_div_mul, Nat.mul_div_cancel_left _ hp]
  have hdm := Nat.div_add_mod (l * 2 ^ s) 18446744073709551616
  rw [ed] at hdm
  refine ⟨?_, ?_⟩
  · have : (h + 1) * 2 ^ s ≤ y * 2 ^ s := Nat.mul_le_mul_right _ hy
    rw [Nat.add_mul] at this
    omega
  · rw [Nat.add_mul, Nat.add_mul, Nat.add_assoc, Nat.mul_comm (l / 2 ^ (64 - s)), hdm, Nat.mul_right_comm]
theorem u64_of {n : Int} {k : Nat} (h : n = (k : Int)) (hk : k < 18446744073709551616) : IntKind.u64.wrap n = (k : Int) := by rw [h]; exact Mul64.wrapN _ hk
theorem trial_start {U d1 : Nat} (hd1 : 2147483648 ≤ d1) (hU : U < 18446744073709551616) :
    IntKind.u64.wrap ((U : Int) / (d1 : Int)) = ((U / d1 : Nat) : Int) ∧ IntKind.u64.wrap ((U : Int) - IntKind.u64.wrap (IntKind.u64.wrap ((U : Int) / (d1 : Int)) * (d1 : Int))) = ((U % d1 : Nat) : Int) := by
  have h1 : U / d1 ≤ U := Nat.div_le_self _ _
  have h2 : U % d1 < d1 := Nat.mod_lt _ (by omega)
  have h2' : U % d1 ≤ U := Nat.mod_le _ _
  have h3 : U / d1 * d1 + U % d1 = U := by rw [Nat.mul_comm]; exact Nat.div_add_mod U d1
  have e1 : IntKind.u64.wrap ((U : Int) / (d1 : Int)) = ((U / d1 : Nat) : Int) := u64_of rfl (by omega)
  refine ⟨e1, ?_⟩
  rw [e1]
  have e2 : IntKind.u64.wrap (((U / d1 : Nat) : Int) * (d1 : Int)) = ((U / d1 * d1 : Nat) : Int) := u64_of (Int.natCast_mul _ _).symm (by omega)
  rw [e2]
  exact u64_of (by omega) (by omega)
/-- The rest behind a digit. -/
theorem rest_of {U a Y q : Nat} (hq : q = (U * 4294967296 + a) / Y) (hY0 : 0 < Y) (hY : Y < 18446744073709551616) :
    IntKind.u64.wrap (IntKind.u64.wrap (IntKind.u64.wrap ((U : Int) * 4294967296) + (a : Int)) - IntKind.u64.wrap ((q : Int) * (Y : Int))) = (((U * 4294967296 + a) % Y : Nat) : Int) := by
  have h1 : q * Y + (U * 4294967296 + a) % Y = U * 4294967296 + a := by rw [hq, Nat.mul_comm]; exact Nat.div_add_mod _ _
  have h2 : (U * 4294967296 + a) % Y < Y := Nat.mod_lt _ hY0
  rw [← Int.natCast_mul]
  generalize q * Y = m at *
  generalize (U * 4294967296 + a) % Y = r at *
  simp only [IntKind.wrap_u64]
  omega
theorem quo_lt {U a d1 d0 : Nat} (hU : U < d1 * 4294967296 + d0) (ha : a < 4294967296) : (U * 4294967296 + a) / (d1 * 4294967296 + d0) < 4294967296 := by
  rw [Nat.div_lt_iff_lt_mul (by omega)]
  have : (U + 1) * 4294967296 ≤ (d1 * 4294967296 + d0) * 4294967296 := Nat.mul_le_mul_right _ hU
  rw [Nat.mul_comm 4294967296]
  omega
set_option maxRecDepth 100000 in
set_option maxHeartbeats 1000000 in
theorem bdiv64 (hi lo y : Nat) (w : World) (hhi : 0 < hi) (hlo : lo < 18446744073709551616) (hy : y < 18446744073709551616) (hh : hi < y) :
    Calls Try.prog 30 #[.int .u64 hi, .int .u64 lo, .int .u64 y] w fun e w' => e = .returned (.tuple #[.int .u64 (((hi * 18446744073709551616 + lo) / y : Nat) : Int), .int .u64 (((hi * 18446744073709551616 + lo) % y : Nat) : Int)]) ∧ ∃ n, w' = w.drewN n := by
  have b0 : ((y : Int) == 0) = false := by simp; omega
  have b1 : ((hi : Int) == 0) = false := by simp; omega
  have HZ := Lib.hid (blz64 y)
  go_enter Try.func30, Try.ntmps30
  go_upto_region 14 with (go_at_call 45; refine (HZ.out _ (by omega) hy).mono ?_; rintro e w' ⟨⟨s, rfl, hs1, hs2, hs3⟩, rfl⟩)
  go_cut [2, 8, 9, 10, 11, 13, 14] (fun t2 t8 t9 t10 t11 t13 t14 wx => ∃ s Y d1 d0 U a b : Nat, t2 = .int .u64 Y ∧ t8 = .int .u64 s ∧ t9 = .int .u64 d1 ∧ t10 = .int .u64 d0 ∧ t11 = .int .u64 U ∧ t13 = .int .u64 a ∧ t14 = .int .u64 b ∧
    s ≤ 63 ∧ Y < 18446744073709551616 ∧ Hid (Y = y * 2 ^ s) ∧ Hid (Y = d1 * 4294967296 + d0) ∧ d0 < 4294967296 ∧ 2147483648 ≤ d1 ∧ d1 < 4294967296 ∧ U < Y ∧ a < 4294967296 ∧ b < 4294967296 ∧
    Hid ((hi * 18446744073709551616 + lo) * 2 ^ s = U * 18446744073709551616 + (a * 4294967296 + b)) ∧ w = wx)
  case first =>
    go_wp2
    go_meet
    have q1 := split_words hs1 hlo hh hs3
    have q2 : hi * 2 ^ s < 18446744073709551616 := Nat.lt_of_le_of_lt (Nat.le_trans (Nat.le_add_right _ _) (Nat.le_of_lt q1.1)) hs3
    have q3 : lo * 2 ^ s % 18446744073709551616 < 18446744073709551616 := Nat.mod_lt _ (by decide)
    rw [shl_small hs3, or_words hs1 q2 hlo, shl_any lo s, Mul64.maskN _ hs3, Mul64.maskN _ q3]
    refine ⟨s, y * 2 ^ s, y * 2 ^ s / 4294967296, y * 2 ^ s % 4294967296, _, lo * 2 ^ s % 18446744073709551616 / 4294967296, _, rfl, rfl, rfl, rfl, rfl, rfl, rfl, hs1, hs3, rfl, ?_, ?_, ?_, ?_, q1.1, ?_, ?_, ?_, rfl⟩
    · show _ = _; rw [Nat.mul_comm _ 4294967296]; exact (Nat.div_add_mod _ _).symm
    · exact Nat.mod_lt _ (by decide)
    · omega
    · omega
    · omega
    · exact Nat.mod_lt _ (by decide)
    · show _ = _
      rw [q1.2]
      congr 1
      rw [Nat.mul_comm _ 4294967296]
      exact (Nat.div_add_mod _ _).symm
  case rest =>
    obtain ⟨s, Y, d1, d0, U, a, b, rfl, rfl, rfl, rfl, rfl, rfl, rfl, hs, hY, HY, HD, hd0, hd1, hd2, hU, ha, hb, HN, rfl⟩ := hcut
    have hYd : Hid (0 < Y) := by show 0 < Y; omega
    have TS := Lib.hid (trial_start (U := U) (d1 := d1) hd1 (by omega))
    have TF := Lib.hid (trial_first (u := U) (v := a) hd1 hd0 (by rw [← HD.out]; exact hU) ha)
    go_upto_block 0 with fail
    go_cut [15, 16] (fun t15 _ wx => ∃ q : Nat, t15 = .int .u64 q ∧ q < 4294967296 ∧ Hid (q = (U * 4294967296 + a) / Y) ∧ w = wx)
    case first =>
      go_wp2_with fail
      go_loop [15, 16] (fun t15 t16 => ∃ q r : Nat, t15 = .int .u64 q ∧ t16 = .int .u64 r ∧ r < 4294967296 ∧ Hid (Trial U a d1 d0 q r)) (fun t15 _ => (intOf t15).toNat)
      case atStart => exact ⟨U / d1, U % d1, by rw [TS.out.1], by rw [TS.out.2], Nat.lt_trans (Nat.mod_lt _ (by omega)) hd2, TF.out⟩
      case round =>
        obtain ⟨q, r, rfl, rfl, hr, HT⟩ := hrel
        clear TS TF
        have hdp : 0 < d1 := by omega
        have HUd : Hid (U < d1 * 4294967296 + d0) := by show _ < _; rw [← HD.out]; exact hU
        have hq1 := HT.out.hi
        have hM0 : 0 ≤ (q : Int) * (d0 : Int) := by rw [← Int.natCast_mul]; exact Int.natCast_nonneg _
        have hMN : q * d0 ≤ 4294967297 * 4294967295 := Nat.mul_le_mul hq1 (by omega)
        have hM1 : (q : Int) * (d0 : Int) ≤ 18446744073709551615 := by rw [← Int.natCast_mul]; omega
        have HMC := Lib.hid (Int.natCast_mul q d0)
        clear hMN hlo hy hY HN HZ b0 b1 hh hhi
        have HQS := Lib.hid (quo_lt HUd.out ha)
        have z1 : (q : Int) ≤ 4294967297 := by omega
        have z2 : (r : Int) < 4294967296 := by omega
        have z3 : (d1 : Int) < 4294967296 := by omega
        have z4 : (2147483648 : Int) ≤ d1 := by omega
        have z5 : (a : Int) < 4294967296 := by omega
        by_cases c1 : (4294967296 : Int) ≤ q
        · have HL := Lib.hid (trial_less hdp HUd.out ha HT.out (.inl (by omega)))
          by_cases c2 : (4294967296 : Int) ≤ r + d1
          · have HB := Lib.hid (trial_break hdp hd0 HL.out.2 (by omega) (by omega))
            clear hM0 hM1 hr hd0 hd1 hd2 hU ha hb hs hdp hq1
            go_wp2
            go_meet
            exact ⟨q - 1, by go_num, by have e1 := HB.out; have e2 := HQS.out; omega, by rw [HD.out]; exact HB.out, rfl⟩
          · clear hM0 hM1 hr hd0 hd1 hd2 hU ha hb hs hdp hq1
            go_wp2
            go_round
            case rel => exact ⟨q - 1, r + d1, by go_num, by go_num, by omega, HL.out.2⟩
            case measure => simp [intOf]; omega
        · by_cases c2 : 4294967296 * (r : Int) + (a : Int) < (q : Int) * (d0 : Int)
          · have HL := Lib.hid (trial_less hdp HUd.out ha HT.out (.inr (by rw [← Int.natCast_mul] at c2; omega)))
            have hq0 := HL.out.1
            by_cases c3 : (4294967296 : Int) ≤ r + d1
            · have HB := Lib.hid (trial_break hdp hd0 HL.out.2 (by omega) (by omega))
              clear hr hd0 hd1 hd2 hU ha hb hs hdp hq1
              go_wp2
              go_meet
              exact ⟨q - 1, by go_num, by omega, by rw [HD.out]; exact HB.out, rfl⟩
            · clear hr hd0 hd1 hd2 hU ha hb hs hdp hq1
              go_wp2
              go_round
              case rel => exact ⟨q - 1, r + d1, by go_num, by go_num, by omega, HL.out.2⟩
              case measure => simp [intOf]; omega
          · have HB := Lib.hid (trial_done hdp HT.out (by rw [← Int.natCast_mul] at c2; omega))
            clear hr hd0 hd1 hd2 hU ha hb hs hdp hq1
            go_wp2
            go_meet
            exact ⟨q, rfl, by omega, by rw [HD.out]; exact HB.out, rfl⟩
    case rest =>
      obtain ⟨q1, rfl, hq1, HQ, rfl⟩ := hcut
      have HR := Lib.hid (rest_of (a := a) HQ.out hYd.out hY)
      obtain ⟨R, hR⟩ : ∃ R, (U * 4294967296 + a) % Y = R := ⟨_, rfl⟩
      have hRY : Hid (R < Y) := by show R < Y; rw [← hR]; exact Nat.mod_lt _ hYd.out
      rw [hR] at HR
      have HRR := Lib.hid hR
      clear hR TS TF
      go_upto_region 21 with fail
      go_cut [17] (fun t17 wx => t17 = .int .u64 R ∧ w = wx)
      case first =>
        have hq9 : (q1 : Int) < 4294967296 := by omega
        clear hU ha hb hd0 hd1 hd2 hs hhi hlo hy hh hq1 hY
        go_wp2
        go_meet
        exact ⟨by rw [HR.out], rfl⟩
      case rest =>
        obtain ⟨rfl, rfl⟩ := hcut
        have hRd : Hid (R < d1 * 4294967296 + d0) := by show _ < _; rw [← HD.out]; exact hRY.out
        have TS := Lib.hid (trial_start (U := R) (d1 := d1) hd1 (by have := hRY.out; omega))
        have TF := Lib.hid (trial_first (u := R) (v := b) hd1 hd0 hRd.out hb)
        go_upto_block 2 with fail
        go_cut [16, 18] (fun _ t18 wx => ∃ q : Nat, t18 = .int .u64 q ∧ q < 4294967296 ∧ Hid (q = (R * 4294967296 + b) / Y) ∧ w = wx)
        case first =>
          go_wp2_with fail
          go_loop [16, 18] (fun t16 t18 => ∃ q r : Nat, t18 = .int .u64 q ∧ t16 = .int .u64 r ∧ r < 4294967296 ∧ Hid (Trial R b d1 d0 q r)) (fun _ t18 => (intOf t18).toNat)
          case atStart => exact ⟨R / d1, R % d1, by rw [TS.out.1], by rw [TS.out.2], Nat.lt_trans (Nat.mod_lt _ (by omega)) hd2, TF.out⟩
          case round =>
            obtain ⟨q, r, rfl, rfl, hr, HT⟩ := hrel
            have hq1' := hq1
            clear TS TF
            have hdp : 0 < d1 := by omega
            have HUd : Hid (R < d1 * 4294967296 + d0) := by show _ < _; rw [← HD.out]; exact hRY.out
            have hq1 := HT.out.hi
            have hM0 : 0 ≤ (q : Int) * (d0 : Int) := by rw [← Int.natCast_mul]; exact Int.natCast_nonneg _
            have hMN : q * d0 ≤ 4294967297 * 4294967295 := Nat.mul_le_mul hq1 (by omega)
            have hM1 : (q : Int) * (d0 : Int) ≤ 18446744073709551615 := by rw [← Int.natCast_mul]; omega
            have HMC := Lib.hid (Int.natCast_mul q d0)
            clear hMN hlo hy hY HN HZ b0 b1 hh hhi
            have HQS := Lib.hid (quo_lt HUd.out hb)
            have z1 : (q : Int) ≤ 4294967297 := by omega
            have z2 : (r : Int) < 4294967296 := by omega
            have z3 : (d1 : Int) < 4294967296 := by omega
            have z4 : (2147483648 : Int) ≤ d1 := by omega
            have z5 : (b : Int) < 4294967296 := by omega
            by_cases c1 : (4294967296 : Int) ≤ q
            · have HL := Lib.hid (trial_less hdp HUd.out hb HT.out (.inl (by omega)))
              by_cases c2 : (4294967296 : Int) ≤ r + d1
              · have HB := Lib.hid (trial_break hdp hd0 HL.out.2 (by omega) (by omega))
                clear hM0 hM1 hr hd0 hd1 hd2 hU ha hb hs hdp hq1
                go_wp2
                go_meet
                exact ⟨q - 1, by go_num, by have e1 := HB.out; have e2 := HQS.out; omega, by rw [HD.out]; exact HB.out, rfl⟩
              · clear hM0 hM1 hr hd0 hd1 hd2 hU ha hb hs hdp hq1
                go_wp2
                go_round
                case rel => exact ⟨q - 1, r + d1, by go_num, by go_num, by omega, HL.out.2⟩
                case measure => simp [intOf]; omega
            · by_cases c2 : 4294967296 * (r : Int) + (b : Int) < (q : Int) * (d0 : Int)
              · have HL := Lib.hid (trial_less hdp HUd.out hb HT.out (.inr (by rw [← Int.natCast_mul] at c2; omega)))
                have hq0 := HL.out.1
                by_cases c3 : (4294967296 : Int) ≤ r + d1
                · have HB := Lib.hid (trial_break hdp hd0 HL.out.2 (by omega) (by omega))
                  clear hr hd0 hd1 hd2 hU ha hb hs hdp hq1
                  go_wp2
                  go_meet
                  exact ⟨q - 1, by go_num, by omega, by rw [HD.out]; exact HB.out, rfl⟩
                · clear hr hd0 hd1 hd2 hU ha hb hs hdp hq1
                  go_wp2
                  go_round
                  case rel => exact ⟨q - 1, r + d1, by go_num, by go_num, by omega, HL.out.2⟩
                  case measure => simp [intOf]; omega
              · have HB := Lib.hid (trial_done hdp HT.out (by rw [← Int.natCast_mul] at c2; omega))
                clear hr hd0 hd1 hd2 hU ha hb hs hdp hq1
                go_wp2
                go_meet
                exact ⟨q, rfl, by omega, by rw [HD.out]; exact HB.out, rfl⟩
        case rest =>
          obtain ⟨q0, rfl, hq0, HQ0, rfl⟩ := hcut
          have HR0 := Lib.hid (rest_of (a := b) HQ0.out hYd.out hY)
          have hy0 : Hid (0 < y) := by
            show 0 < y
            apply Nat.pos_of_ne_zero
            intro e
            rw [e] at hh
            omega
          have HT := Lib.hid (two_digits (N := hi * 18446744073709551616 + lo) (q1 := q1) (q0 := q0) (r1 := R) (r0 := (R * 4294967296 + b) % Y) hy0.out HN.out (by rw [← HY.out, HQ.out, ← HRR.out, Nat.mul_comm _ Y]; exact (Nat.div_add_mod _ _).symm) (by rw [← HY.out, HQ0.out, Nat.mul_comm _ Y]; exact (Nat.div_add_mod _ _).symm) (by rw [← HY.out]; exact Nat.mod_lt _ hYd.out))
          have HQV : Hid (IntKind.u64.wrap (IntKind.u64.wrap ((q1 : Int) * 4294967296) + (q0 : Int)) = (((hi * 18446744073709551616 + lo) / y : Nat) : Int)) := by
            show _ = _
            rw [HT.out.1]
            simp only [IntKind.wrap_u64]
            omega
          have HRV : Hid ((((R * 4294967296 + b) % Y : Nat) : Int) / 2 ^ s = (((hi * 18446744073709551616 + lo) % y : Nat) : Int)) := by
            show _ = _
            rw [HT.out.2, pow_cast, ← Int.natCast_ediv]
          obtain ⟨r0, hr0⟩ : ∃ r0, (R * 4294967296 + b) % Y = r0 := ⟨_, rfl⟩
          rw [hr0] at HR0 HRV
          have z1 : (q1 : Int) < 4294967296 := by omega
          have z2 : (q0 : Int) < 4294967296 := by omega
          have z3 : (s : Int) ≤ 63 := by omega
          clear hr0 HT hU ha hb hd0 hd1 hd2 hhi hlo hy hh hq1 hY TS TF HQ HQ0 hq0 HN
          go_wp2
          go_ret2
          refine ⟨ret_uu ?_ ?_, 0, rfl⟩
          · first
            | exact HQV.out
            | (rw [← HQV.out]; simp only [IntKind.wrap_u64]; omega)
          · rw [HR0.out]
            exact HRV.out
end Go.Proofs.Ytnacfpkagomfaaa
