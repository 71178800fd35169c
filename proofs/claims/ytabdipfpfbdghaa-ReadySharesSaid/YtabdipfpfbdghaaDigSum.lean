/- wherryref01: plus and less, of sizes. -/
import Derived.Test.YtabdipfpfbdghaaDigSumPlain
import Derived.Test.YtabdipfpfbdghaaDigTimes
namespace Go.Proofs.Ytabdipfpfbdghaa
open Go.RowKit
theorem getD_get {xs : List Int} {i : Nat} (h : i < xs.length) : xs[i] = xs.getD i 0 := by simp [List.getD_eq_getElem?_getD, h]
theorem getD_out {xs : List Int} {i : Nat} (h : ¬ i < xs.length) : xs.getD i 0 = 0 := by simp [List.getD_eq_getElem?_getD, Nat.le_of_not_lt h]
/-- A size, as a slice of digits. -/
def Siz (w : World) (v : Value) (z : Int) (N : Nat) : Prop := ∃ A n c ds, v = .slice A n c ∧ Rds w 1 A n c (nums .u32 ds) ∧ Dig ds ∧ valD ds = z ∧ n ≤ N
theorem i32_in (n : Int) (h : -2147483648 ≤ n ∧ n ≤ 2147483647) : IntKind.i32.wrap n = n := by
  unfold IntKind.wrap
  simp [IntKind.bits, IntKind.signed]
  omega
theorem and32i (y : Int) : bits BinOp.and IntKind.i32 y 65535 = y % 65536 := by
  have h : (BitVec.ofInt 32 65535).toNat = 2 ^ 16 - 1 := by decide
  have key : (BitVec.ofInt 32 y &&& BitVec.ofInt 32 65535).toNat = (y % ((2 ^ 32 : Nat) : Int)).toNat % 2 ^ 16 := by
    rw [BitVec.toNat_and, BitVec.toNat_ofInt, h, Nat.and_two_pow_sub_one_eq_mod]
  show IntKind.i32.wrap ((BitVec.ofInt 32 y &&& BitVec.ofInt 32 65535).toNat : Nat) = y % 65536
  rw [key, i32_in _ (by omega)]
  omega
set_option maxRecDepth 100000 in
set_option maxHeartbeats 4000000 in
theorem dplus (A : Option Addr) (n c : Nat) (a : List Int) (B : Option Addr) (m d : Nat) (b : List Int) (w : World) (hr : Rds w 1 A n c (nums .u32 a)) (hr2 : Rds w 1 B m d (nums .u32 b)) (ha : Dig a) (hb : Dig b) (hn : n ≤ 3000) (hm : m ≤ 3000) :
    Calls Try.prog 74 #[.slice A n c, .slice B m d] w fun e w' => (∃ v, e = .returned v ∧ Siz w' v (valD a + valD b) (max n m + 1)) ∧ Below w.heap.size w w' := by
  have HN := Lib.hid (u32s_len hr)
  have HM := Lib.hid (u32s_len hr2)
  have HDA := Lib.hid ha
  have HDB := Lib.hid hb
  clear ha hb
  go_enter Try.func74, Try.ntmps74
  go_wp2
  go_loopw [5, 6, 7] (fun v cv iv wr => ∃ (i : Nat) (c1 : Int) (ds : List Int), i ≤ max n m + 1 ∧ (max n m < i → c1 = 0) ∧ iv = .int .i64 i ∧ cv = .int .u32 c1 ∧ 0 ≤ c1 ∧ c1 ≤ 1 ∧ Hid (Sum a b i ds c1) ∧ wr.ownsRow w.heap.size 93 1 v i (nums .u32 ds) ∧ Below w.heap.size w wr) (fun _ cv iv _ => 2 * (max n m - (intOf iv).toNat) + (intOf cv).toNat)
  case atStart => exact ⟨0, 0, [], by omega, (fun h => by omega), rfl, rfl, by omega, by omega, Sum.start a b, World.ownsRow_nil _ _ _ _, Below.refl _ _⟩
  case round =>
    obtain ⟨i, c1, ds, hi, hi0, rfl, rfl, hc0, hc1, HS, ho, hbr⟩ := hrel
    by_cases ha1 : i < n
    · by_cases hb1 : i < m
      · have hia : i < a.length := by rw [HN.out]; exact ha1
        obtain ⟨ad, rfl⟩ := hr.some_ (by omega)
        have hca := (hr.below hbr).cell ad rfl i _ (nums_get .u32 a i hia)
        rw [getD_get hia] at hca
        have hda := dig_getD HDA.out i
        have hi1 : (i : Int) < n := by omega
        have hib : i < b.length := by rw [HM.out]; exact hb1
        obtain ⟨bd, rfl⟩ := hr2.some_ (by omega)
        have hcb := (hr2.below hbr).cell bd rfl i _ (nums_get .u32 b i hib)
        rw [getD_get hib] at hcb
        have hdb := dig_getD HDB.out i
        have hi2 : (i : Int) < m := by omega
        obtain ⟨s0, s1, hst, hz⟩ := HS.out.step HDA.out HDB.out (s := c1 + a.getD i 0 + b.getD i 0) (by rfl)
        have HST := Lib.hid hst
        have HZ := Lib.hid hz
        have HEA : Hid (a.getD i 0 = a.getD i 0) := rfl
        clear hst hz HS
        generalize a.getD i 0 = x at *
        generalize b.getD i 0 = y at *
        have ha32 : bits BinOp.and IntKind.u32 (c1 + x + y) 65535 = (c1 + x + y) % 65536 := and32 _ s0 (by omega)
        clear HEA
        go_wp2_with (at_builtin; (refine ap1 (w0 := w) w.heap.size rfl _ _ 74 93 _ 4 (by rfl) Try.underlying74 info_u32 rfl (by decide) _ _ _ _ (by rfl) (by rfl) rfl ho hbr hbr.size (by omega) ?_); intro v1 w1 ho1 hb1 _ _)
        go_roundw
        case rel => exact ⟨i + 1, _, ds ++ [(c1 + x + y) % 65536], by omega, (fun h => by exfalso; omega), by go_num, rfl, by omega, by omega, HST.out, by rw [nums_append]; exact ho1, hb1⟩
        case measure => simp only [intOf]; omega
      · have hia : i < a.length := by rw [HN.out]; exact ha1
        obtain ⟨ad, rfl⟩ := hr.some_ (by omega)
        have hca := (hr.below hbr).cell ad rfl i _ (nums_get .u32 a i hia)
        rw [getD_get hia] at hca
        have hda := dig_getD HDA.out i
        have hi1 : (i : Int) < n := by omega
        have heb : b.getD i 0 = 0 := getD_out (by rw [HM.out]; exact hb1)
        obtain ⟨s0, s1, hst, hz⟩ := HS.out.step HDA.out HDB.out (s := c1 + a.getD i 0) (by omega)
        have HST := Lib.hid hst
        have HZ := Lib.hid hz
        have HEA : Hid (a.getD i 0 = a.getD i 0) := rfl
        clear hst hz HS heb
        generalize a.getD i 0 = x at *
        have ha32 : bits BinOp.and IntKind.u32 (c1 + x) 65535 = (c1 + x) % 65536 := and32 _ s0 (by omega)
        clear HEA
        go_wp2_with (at_builtin; (refine ap1 (w0 := w) w.heap.size rfl _ _ 74 93 _ 4 (by rfl) Try.underlying74 info_u32 rfl (by decide) _ _ _ _ (by rfl) (by rfl) rfl ho hbr hbr.size (by omega) ?_); intro v1 w1 ho1 hb1 _ _)
        go_roundw
        case rel => exact ⟨i + 1, _, ds ++ [(c1 + x) % 65536], by omega, (fun h => by exfalso; omega), by go_num, rfl, by omega, by omega, HST.out, by rw [nums_append]; exact ho1, hb1⟩
        case measure => simp only [intOf]; omega
    · by_cases hb1 : i < m
      · have hea : a.getD i 0 = 0 := getD_out (by rw [HN.out]; exact ha1)
        have hib : i < b.length := by rw [HM.out]; exact hb1
        obtain ⟨bd, rfl⟩ := hr2.some_ (by omega)
        have hcb := (hr2.below hbr).cell bd rfl i _ (nums_get .u32 b i hib)
        rw [getD_get hib] at hcb
        have hdb := dig_getD HDB.out i
        have hi2 : (i : Int) < m := by omega
        obtain ⟨s0, s1, hst, hz⟩ := HS.out.step HDA.out HDB.out (s := c1 + b.getD i 0) (by omega)
        have HST := Lib.hid hst
        have HZ := Lib.hid hz
        clear hst hz HS hea
        generalize b.getD i 0 = y at *
        have ha32 : bits BinOp.and IntKind.u32 (c1 + y) 65535 = (c1 + y) % 65536 := and32 _ s0 (by omega)
        go_wp2_with (at_builtin; (refine ap1 (w0 := w) w.heap.size rfl _ _ 74 93 _ 4 (by rfl) Try.underlying74 info_u32 rfl (by decide) _ _ _ _ (by rfl) (by rfl) rfl ho hbr hbr.size (by omega) ?_); intro v1 w1 ho1 hb1 _ _)
        go_roundw
        case rel => exact ⟨i + 1, _, ds ++ [(c1 + y) % 65536], by omega, (fun h => by exfalso; omega), by go_num, rfl, by omega, by omega, HST.out, by rw [nums_append]; exact ho1, hb1⟩
        case measure => simp only [intOf]; omega
      · by_cases hcp : 0 < c1
        · have hea : a.getD i 0 = 0 := getD_out (by rw [HN.out]; exact ha1)
          have heb : b.getD i 0 = 0 := getD_out (by rw [HM.out]; exact hb1)
          obtain ⟨s0, s1, hst, hz⟩ := HS.out.step HDA.out HDB.out (s := c1) (by omega)
          have HST := Lib.hid hst
          have HZ := Lib.hid hz
          clear hst hz HS hea heb
          have ha32 : bits BinOp.and IntKind.u32 (c1) 65535 = (c1) % 65536 := and32 _ s0 (by omega)
          go_wp2_with (at_builtin; (refine ap1 (w0 := w) w.heap.size rfl _ _ 74 93 _ 4 (by rfl) Try.underlying74 info_u32 rfl (by decide) _ _ _ _ (by rfl) (by rfl) rfl ho hbr hbr.size (by omega) ?_); intro v1 w1 ho1 hb1 _ _)
          go_roundw
          case rel => exact ⟨i + 1, _, ds ++ [(c1) % 65536], by have := hi0; omega, (fun _ => HZ.out (by rw [HN.out]; omega) (by rw [HM.out]; omega)), by go_num, rfl, by omega, by omega, HST.out, by rw [nums_append]; exact ho1, hb1⟩
          case measure => simp only [intOf]; omega
        · obtain rfl : c1 = 0 := by omega
          have hval := HS.out.done (by rw [HN.out]; omega) (by rw [HM.out]; omega) rfl
          have HV := Lib.hid hval
          clear hval
          obtain ⟨C, k, q, rfl, hk, hrd⟩ := own_open ho
          have hk' := hk.out
          subst hk'
          go_wp2
          go_ret
          exact ⟨⟨_, rfl, _, _, _, ds, rfl, hrd, HS.out.dig, HV.out, hi⟩, hbr⟩
set_option maxRecDepth 100000 in
set_option maxHeartbeats 4000000 in
theorem dless (A : Option Addr) (n c : Nat) (a : List Int) (B : Option Addr) (m d : Nat) (b : List Int) (w : World) (hr : Rds w 1 A n c (nums .u32 a)) (hr2 : Rds w 1 B m d (nums .u32 b)) (ha : Dig a) (hb : Dig b) (hn : n ≤ 3000) (hmn : m ≤ n) (hv : valD b ≤ valD a) :
    Calls Try.prog 76 #[.slice A n c, .slice B m d] w fun e w' => (∃ v, e = .returned v ∧ Siz w' v (valD a - valD b) n) ∧ Below w.heap.size w w' := by
  have HN := Lib.hid (u32s_len hr)
  have HM := Lib.hid (u32s_len hr2)
  have HDA := Lib.hid ha
  have HDB := Lib.hid hb
  have HVV := Lib.hid hv
  clear ha hb hv
  go_enter Try.func76, Try.ntmps76
  go_wp2
  go_loopw [5, 6, 10] (fun v cv iv wr => ∃ (i : Nat) (c1 : Int) (ds : List Int), i ≤ n ∧ iv = .int .i64 i ∧ cv = .int .i32 c1 ∧ -1 ≤ c1 ∧ c1 ≤ 0 ∧ Hid (Dif a b i ds c1) ∧ wr.ownsRow w.heap.size 93 1 v i (nums .u32 ds) ∧ Below w.heap.size w wr) (fun _ _ iv _ => n - (intOf iv).toNat)
  case atStart => exact ⟨0, 0, [], by omega, rfl, rfl, by omega, by omega, Dif.start a b, World.ownsRow_nil _ _ _ _, Below.refl _ _⟩
  case round =>
    obtain ⟨i, c1, ds, hi, rfl, rfl, hc0, hc1, HS, ho, hbr⟩ := hrel
    by_cases ha1 : i < n
    · have hia : i < a.length := by rw [HN.out]; exact ha1
      obtain ⟨ad, rfl⟩ := hr.some_ (by omega)
      have hca := (hr.below hbr).cell ad rfl i _ (nums_get .u32 a i hia)
      rw [getD_get hia] at hca
      have hda := dig_getD HDA.out i
      have hi1 : (i : Int) < n := by omega
      by_cases hb1 : i < m
      · have hib : i < b.length := by rw [HM.out]; exact hb1
        obtain ⟨bd, rfl⟩ := hr2.some_ (by omega)
        have hcb := (hr2.below hbr).cell bd rfl i _ (nums_get .u32 b i hib)
        rw [getD_get hib] at hcb
        have hdb := dig_getD HDB.out i
        have hi2 : (i : Int) < m := by omega
        obtain ⟨s0, s1, hst⟩ := HS.out.step HDA.out HDB.out (s := c1 + a.getD i 0 - b.getD i 0) rfl
        have HST := Lib.hid hst
        clear hst HS
        generalize a.getD i 0 = x at *
        generalize b.getD i 0 = y at *
        have ha32 : bits BinOp.and IntKind.i32 (c1 + x - y) 65535 = (c1 + x - y) % 65536 := and32i _
        go_wp2_with (at_builtin; (refine ap1 (w0 := w) w.heap.size rfl _ _ 74 93 _ 4 (by rfl) Try.underlying74 info_u32 rfl (by decide) _ _ _ _ (by rfl) (by rfl) rfl ho hbr hbr.size (by omega) ?_); intro v1 w1 ho1 hb1 _ _)
        go_roundw
        case rel => exact ⟨i + 1, _, ds ++ [(c1 + x - y) % 65536], by omega, by go_num, rfl, by omega, by omega, HST.out, by rw [nums_append]; exact ho1, hb1⟩
        case measure => simp only [intOf]; omega
      · have heb : b.getD i 0 = 0 := getD_out (by rw [HM.out]; exact hb1)
        obtain ⟨s0, s1, hst⟩ := HS.out.step HDA.out HDB.out (s := c1 + a.getD i 0) (by omega)
        have HST := Lib.hid hst
        clear hst HS heb
        generalize a.getD i 0 = x at *
        have ha32 : bits BinOp.and IntKind.i32 (c1 + x) 65535 = (c1 + x) % 65536 := and32i _
        go_wp2_with (at_builtin; (refine ap1 (w0 := w) w.heap.size rfl _ _ 74 93 _ 4 (by rfl) Try.underlying74 info_u32 rfl (by decide) _ _ _ _ (by rfl) (by rfl) rfl ho hbr hbr.size (by omega) ?_); intro v1 w1 ho1 hb1 _ _)
        go_roundw
        case rel => exact ⟨i + 1, _, ds ++ [(c1 + x) % 65536], by omega, by go_num, rfl, by omega, by omega, HST.out, by rw [nums_append]; exact ho1, hb1⟩
        case measure => simp only [intOf]; omega
    · obtain rfl : i = n := by omega
      have hval := Dif.done (a := a) (b := b) (d := ds) (c := c1) (by rw [HN.out]; exact HS.out) (by rw [HN.out, HM.out]; exact hmn) HVV.out
      have HV := Lib.hid hval
      clear hval
      obtain ⟨C, k, q, rfl, hk, hrd⟩ := own_open ho
      have hk' := hk.out
      subst hk'
      go_wp2
      go_ret
      exact ⟨⟨_, rfl, _, _, _, ds, rfl, hrd, HS.out.dig, HV.out, Nat.le_refl _⟩, hbr⟩
end Go.Proofs.Ytabdipfpfbdghaa
