/- wherryref01: plus and less, of sizes. -/
import Derived.Test.YtopikpjagjnbhaaZDigPlain
import Derived.Test.YtopikpjagjnbhaaZDigSize
import Derived.Test.YtopikpjagjnbhaaZRegionS
namespace Go.Proofs.Ytopikpjagjnbhaa
open Go.RowKit
theorem getD_get {xs : List Int} {i : Nat} (h : i < xs.length) : xs[i] = xs.getD i 0 := by simp [List.getD_eq_getElem?_getD, h]
theorem getD_out {xs : List Int} {i : Nat} (h : ¬ i < xs.length) : xs.getD i 0 = 0 := by simp [List.getD_eq_getElem?_getD, Nat.le_of_not_lt h]
/-- A size, as a slice of digits. -/
def Siz (w : World) (v : Value) (z : Int) (N : Nat) : Prop := ∃ A n c ds, v = .slice A n c ∧ Rds w 1 A n c (nums .u32 ds) ∧ Dig ds ∧ valD ds = z ∧ n ≤ N
theorem i32_in (n : Int) (h : -2147483648 ≤ n ∧ n ≤ 2147483647) : IntKind.i32.wrap n = n := by
  unfold IntKind.wrap
  simp [IntKind.bits, IntKind.signed]
  omega
theorem and32i (y : Int) : bits BinOp.and IntKind.i32 y 65535 = y % 65536 := by
  have h : (BitVec.ofInt 32 65535).toNat = 2 ^ 16 - 1 := by decide
  have key : (BitVec.ofInt 32 y &&& BitVec.ofInt 32 65535).toNat = (y % ((2 ^ 32 : Nat) : Int)).toNat % 2 ^ 16 := by
    rw [BitVec.toNat_and, BitVec.toNat_ofInt, h, Nat.and_two_pow_sub_one_eq_mod]
  show IntKind.i32.wrap ((BitVec.ofInt 32 y &&& BitVec.ofInt 32 65535).toNat : Nat) = y % 65536
  rw [key, i32_in _ (by omega)]
  omega
set_option maxRecDepth 100000 in
set_option maxHeartbeats 4000000 in
theorem dplus (A : Option Addr) (n c : Nat) (a : List Int) (B : Option Addr) (m d : Nat) (b : List Int) (w : World) (hr : Rds w 1 A n c (nums .u32 a)) (hr2 : Rds w 1 B m d (nums .u32 b)) (ha : Dig a) (hb : Dig b) (hn : n ≤ 3000) (hm : m ≤ 3000) :
    Calls Try.prog 76 #[.slice A n c, .slice B m d] w fun e w' => (∃ v, e = .returned v ∧ Siz w' v (valD a + valD b) (max n m + 1)) ∧ Below w.heap.size w w' := by
  have HN := Lib.hid (u32s_len hr)
  have HM := Lib.hid (u32s_len hr2)
  have HDA := Lib.hid ha
  have HDB := Lib.hid hb
  clear ha hb
  go_enter Try.func76, Try.ntmps76
  go_wp2
  go_loopw [5, 6, 7] (fun v cv iv wr => ∃ (i : Nat) (c1 : Int) (ds : List Int), i ≤ max n m + 1 ∧ (max n m < i → c1 = 0) ∧ iv = .int .i64 i ∧ cv = .int .u32 c1 ∧ 0 ≤ c1 ∧ c1 ≤ 1 ∧ Hid (Sum a b i ds c1) ∧ wr.ownsRow w.heap.size 74 1 v i (nums .u32 ds) ∧ Below w.heap.size w wr) (fun _ cv iv _ => 2 * (max n m - (intOf iv).toNat) + (intOf cv).toNat)
  case atStart => exact ⟨0, 0, [], by omega, (fun h => by omega), rfl, rfl, by omega, by omega, Sum.start a b, World.ownsRow_nil _ _ _ _, Below.refl _ _⟩
  case round =>
    obtain ⟨i, c1, ds, hi, hi0, rfl, rfl, hc0, hc1, HS, ho, hbr⟩ := hrel
    by_cases ha1 : i < n
    · by_cases hb1 : i < m
      · have hia : i < a.length := by rw [HN.out]; exact ha1
        obtain ⟨ad, rfl⟩ := hr.some_ (by omega)
        have hca := (hr.below hbr).cell ad rfl i _ (nums_get .u32 a i hia)
        rw [getD_get hia] at hca
        have hda := dig_getD HDA.out i
        have hi1 : (i : Int) < n := by omega
        have hib : i < b.length := by rw [HM.out]; exact hb1
        obtain ⟨bd, rfl⟩ := hr2.some_ (by omega)
        have hcb := (hr2.below hbr).cell bd rfl i _ (nums_get .u32 b i hib)
        rw [getD_get hib] at hcb
        have hdb := dig_getD HDB.out i
        have hi2 : (i : Int) < m := by omega
        obtain ⟨s0, s1, hst, hz⟩ := HS.out.step HDA.out HDB.out (s := c1 + a.getD i 0 + b.getD i 0) (by rfl)
        have HST := Lib.hid hst
        have HZ := Lib.hid hz
        have HEA : Hid (a.getD i 0 = a.getD i 0) := rfl
        clear hst hz HS
        generalize a.getD i 0 = x at *
        generalize b.getD i 0 = y at *
        have ha32 : bits BinOp.and IntKind.u32 (c1 + x + y) 65535 = (c1 + x + y) % 65536 := and32 _ s0 (by omega)
        clear HEA
        go_wp2_with (at_builtin; (refine ap1 (w0 := w) w.heap.size rfl _ _ 84 74 _ 4 (by rfl) Try.underlying84 info_u32 rfl (by decide) _ _ _ _ (by rfl) (by rfl) rfl ho hbr hbr.size (by omega) ?_); intro v1 w1 ho1 hb1 _ _)
        go_roundw
        case rel => exact ⟨i + 1, _, ds ++ [(c1 + x + y) % 65536], by omega, (fun h => by exfalso; omega), by go_num, rfl, by omega, by omega, HST.out, by rw [nums_append]; exact ho1, hb1⟩
        case measure => simp only [intOf]; omega
      · have hia : i < a.length := by rw [HN.out]; exact ha1
        obtain ⟨ad, rfl⟩ := hr.some_ (by omega)
        have hca := (hr.below hbr).cell ad rfl i _ (nums_get .u32 a i hia)
        rw [getD_get hia] at hca
        have hda := dig_getD HDA.out i
        have hi1 : (i : Int) < n := by omega
        have heb : b.getD i 0 = 0 := getD_out (by rw [HM.out]; exact hb1)
        obtain ⟨s0, s1, hst, hz⟩ := HS.out.step HDA.out HDB.out (s := c1 + a.getD i 0) (by omega)
        have HST := Lib.hid hst
        have HZ := Lib.hid hz
        have HEA : Hid (a.getD i 0 = a.getD i 0) := rfl
        clear hst hz HS heb
        generalize a.getD i 0 = x at *
        have ha32 : bits BinOp.and IntKind.u32 (c1 + x) 65535 = (c1 + x) % 65536 := and32 _ s0 (by omega)
        clear HEA
        go_wp2_with (at_builtin; (refine ap1 (w0 := w) w.heap.size rfl _ _ 84 74 _ 4 (by rfl) Try.underlying84 info_u32 rfl (by decide) _ _ _ _ (by rfl) (by rfl) rfl ho hbr hbr.size (by omega) ?_); intro v1 w1 ho1 hb1 _ _)
        go_roundw
        case rel => exact ⟨i + 1, _, ds ++ [(c1 + x) % 65536], by omega, (fun h => by exfalso; omega), by go_num, rfl, by omega, by omega, HST.out, by rw [nums_append]; exact ho1, hb1⟩
        case measure => simp only [intOf]; omega
    · by_cases hb1 : i < m
      · have hea : a.getD i 0 = 0 := getD_out (by rw [HN.out]; exact ha1)
        have hib : i < b.length := by rw [HM.out]; exact hb1
        obtain ⟨bd, rfl⟩ := hr2.some_ (by omega)
        have hcb := (hr2.below hbr).cell bd rfl i _ (nums_get .u32 b i hib)
        rw [getD_get hib] at hcb
        have hdb := dig_getD HDB.out i
        have hi2 : (i : Int) < m := by omega
        obtain ⟨s0, s1, hst, hz⟩ := HS.out.step HDA.out HDB.out (s := c1 + b.getD i 0) (by omega)
        have HST := Lib.hid hst
        have HZ := Lib.hid hz
        clear hst hz HS hea
        generalize b.getD i 0 = y at *
        have ha32 : bits BinOp.and IntKind.u32 (c1 + y) 65535 = (c1 + y) % 65536 := and32 _ s0 (by omega)
        go_wp2_with (at_builtin; (refine ap1 (w0 := w) w.heap.size rfl _ _ 84 74 _ 4 (by rfl) Try.underlying84 info_u32 rfl (by decide) _ _ _ _ (by rfl) (by rfl) rfl ho hbr hbr.size (by omega) ?_); intro v1 w1 ho1 hb1 _ _)
        go_roundw
        case rel => exact ⟨i + 1, _, ds ++ [(c1 + y) % 65536], by omega, (fun h => by exfalso; omega), by go_num, rfl, by omega, by omega, HST.out, by rw [nums_append]; exact ho1, hb1⟩
        case measure => simp only [intOf]; omega
      · by_cases hcp : 0 < c1
        · have hea : a.getD i 0 = 0 := getD_out (by rw [HN.out]; exact ha1)
          have heb : b.getD i 0 = 0 := getD_out (by rw [HM.out]; exact hb1)
          obtain ⟨s0, s1, hst, hz⟩ := HS.out.step HDA.out HDB.out (s := c1) (by omega)
          have HST := Lib.hid hst
          have HZ := Lib.hid hz
          clear hst hz HS hea heb
          have ha32 : bits BinOp.and IntKind.u32 (c1) 65535 = (c1) % 65536 := and32 _ s0 (by omega)
          go_wp2_with (at_builtin; (refine ap1 (w0 := w) w.heap.size rfl _ _ 84 74 _ 4 (by rfl) Try.underlying84 info_u32 rfl (by decide) _ _ _ _ (by rfl) (by rfl) rfl ho hbr hbr.size (by omega) ?_); intro v1 w1 ho1 hb1 _ _)
          go_roundw
          case rel => exact ⟨i + 1, _, ds ++ [(c1) % 65536], by have := hi0; omega, (fun _ => HZ.out (by rw [HN.out]; omega) (by rw [HM.out]; omega)), by go_num, rfl, by omega, by omega, HST.out, by rw [nums_append]; exact ho1, hb1⟩
          case measure => simp only [intOf]; omega
        · obtain rfl : c1 = 0 := by omega
          have hval := HS.out.done (by rw [HN.out]; omega) (by rw [HM.out]; omega) rfl
          have HV := Lib.hid hval
          clear hval
          obtain ⟨C, k, q, rfl, hk, hrd⟩ := own_open ho
          have hk' := hk.out
          subst hk'
          go_wp2
          go_ret
          exact ⟨⟨_, rfl, _, _, _, ds, rfl, hrd, HS.out.dig, HV.out, hi⟩, hbr⟩
set_option maxRecDepth 100000 in
set_option maxHeartbeats 4000000 in
theorem dless (A : Option Addr) (n c : Nat) (a : List Int) (B : Option Addr) (m d : Nat) (b : List Int) (w : World) (hr : Rds w 1 A n c (nums .u32 a)) (hr2 : Rds w 1 B m d (nums .u32 b)) (ha : Dig a) (hb : Dig b) (hn : n ≤ 3000) (hmn : m ≤ n) (hv : valD b ≤ valD a) :
    Calls Try.prog 78 #[.slice A n c, .slice B m d] w fun e w' => (∃ v, e = .returned v ∧ Siz w' v (valD a - valD b) n) ∧ Below w.heap.size w w' := by
  have HN := Lib.hid (u32s_len hr)
  have HM := Lib.hid (u32s_len hr2)
  have HDA := Lib.hid ha
  have HDB := Lib.hid hb
  have HVV := Lib.hid hv
  clear ha hb hv
  go_enter Try.func78, Try.ntmps78
  go_wp2
  go_loopw [5, 6, 10] (fun v cv iv wr => ∃ (i : Nat) (c1 : Int) (ds : List Int), i ≤ n ∧ iv = .int .i64 i ∧ cv = .int .i32 c1 ∧ -1 ≤ c1 ∧ c1 ≤ 0 ∧ Hid (Dif a b i ds c1) ∧ wr.ownsRow w.heap.size 74 1 v i (nums .u32 ds) ∧ Below w.heap.size w wr) (fun _ _ iv _ => n - (intOf iv).toNat)
  case atStart => exact ⟨0, 0, [], by omega, rfl, rfl, by omega, by omega, Dif.start a b, World.ownsRow_nil _ _ _ _, Below.refl _ _⟩
  case round =>
    obtain ⟨i, c1, ds, hi, rfl, rfl, hc0, hc1, HS, ho, hbr⟩ := hrel
    by_cases ha1 : i < n
    · have hia : i < a.length := by rw [HN.out]; exact ha1
      obtain ⟨ad, rfl⟩ := hr.some_ (by omega)
      have hca := (hr.below hbr).cell ad rfl i _ (nums_get .u32 a i hia)
      rw [getD_get hia] at hca
      have hda := dig_getD HDA.out i
      have hi1 : (i : Int) < n := by omega
      by_cases hb1 : i < m
      · have hib : i < b.length := by rw [HM.out]; exact hb1
        obtain ⟨bd, rfl⟩ := hr2.some_ (by omega)
        have hcb := (hr2.below hbr).cell bd rfl i _ (nums_get .u32 b i hib)
        rw [getD_get hib] at hcb
        have hdb := dig_getD HDB.out i
        have hi2 : (i : Int) < m := by omega
        obtain ⟨s0, s1, hst⟩ := HS.out.step HDA.out HDB.out (s := c1 + a.getD i 0 - b.getD i 0) rfl
        have HST := Lib.hid hst
        clear hst HS
        generalize a.getD i 0 = x at *
        generalize b.getD i 0 = y at *
        have ha32 : bits BinOp.and IntKind.i32 (c1 + x - y) 65535 = (c1 + x - y) % 65536 := and32i _
        go_wp2_with (at_builtin; (refine ap1 (w0 := w) w.heap.size rfl _ _ 84 74 _ 4 (by rfl) Try.underlying84 info_u32 rfl (by decide) _ _ _ _ (by rfl) (by rfl) rfl ho hbr hbr.size (by omega) ?_); intro v1 w1 ho1 hb1 _ _)
        go_roundw
        case rel => exact ⟨i + 1, _, ds ++ [(c1 + x - y) % 65536], by omega, by go_num, rfl, by omega, by omega, HST.out, by rw [nums_append]; exact ho1, hb1⟩
        case measure => simp only [intOf]; omega
      · have heb : b.getD i 0 = 0 := getD_out (by rw [HM.out]; exact hb1)
        obtain ⟨s0, s1, hst⟩ := HS.out.step HDA.out HDB.out (s := c1 + a.getD i 0) (by omega)
        have HST := Lib.hid hst
        clear hst HS heb
        generalize a.getD i 0 = x at *
        have ha32 : bits BinOp.and IntKind.i32 (c1 + x) 65535 = (c1 + x) % 65536 := and32i _
        go_wp2_with (at_builtin; (refine ap1 (w0 := w) w.heap.size rfl _ _ 84 74 _ 4 (by rfl) Try.underlying84 info_u32 rfl (by decide) _ _ _ _ (by rfl) (by rfl) rfl ho hbr hbr.size (by omega) ?_); intro v1 w1 ho1 hb1 _ _)
        go_roundw
        case rel => exact ⟨i + 1, _, ds ++ [(c1 + x) % 65536], by omega, by go_num, rfl, by omega, by omega, HST.out, by rw [nums_append]; exact ho1, hb1⟩
        case measure => simp only [intOf]; omega
    · obtain rfl : i = n := by omega
      have hval := Dif.done (a := a) (b := b) (d := ds) (c := c1) (by rw [HN.out]; exact HS.out) (by rw [HN.out, HM.out]; exact hmn) HVV.out
      have HV := Lib.hid hval
      clear hval
      obtain ⟨C, k, q, rfl, hk, hrd⟩ := own_open ho
      have hk' := hk.out
      subst hk'
      go_wp2
      go_ret
      exact ⟨⟨_, rfl, _, _, _, ds, rfl, hrd, HS.out.dig, HV.out, Nat.le_refl _⟩, hbr⟩
end Go.Proofs.Ytopikpjagjnbhaa

/- wherryref01: Plus, Minus. -/
namespace Go.Proofs.Ytopikpjagjnbhaa
open Go.RowKit
theorem Siz.below {w w1 : World} {v : Value} {z : Int} {N : Nat} (h : Siz w v z N) (hb : Below w.heap.size w w1) : Siz w1 v z N := by
  obtain ⟨A, n, c, ds, e, hr, h1⟩ := h
  exact ⟨A, n, c, ds, e, hr.below hb, h1⟩
/-- A sign and a size. -/
def SizB (w : World) (v : Value) (s : Bool) (z : Int) (N : Nat) : Prop := ∃ A n c ds, v = .agg #[.bool s, .slice A n c] ∧ Rds w 1 A n c (nums .u32 ds) ∧ Dig ds ∧ valD ds = z ∧ n ≤ N
theorem SizB.below {w w1 : World} {v : Value} {s : Bool} {z : Int} {N : Nat} (h : SizB w v s z N) (hb : Below w.heap.size w w1) : SizB w1 v s z N := by
  obtain ⟨A, n, c, ds, e, hr, h1⟩ := h
  exact ⟨A, n, c, ds, e, hr.below hb, h1⟩
theorem Wd.more {w : World} {v : Value} {z : Int} {N M : Nat} (h : Wd w v z N) (hm : N ≤ M) : Wd w v z M := by
  obtain ⟨A, n, c, ds, e, hr, h1, h2, h3, h4⟩ := h
  exact ⟨A, n, c, ds, e, hr, h1, h2, h3, by omega⟩
def FSiz (z : Int) (N : Nat) : Fact := ⟨fun v W => Siz W v z N, fun _ _ _ h hb => h.below hb⟩
def FSizB (s : Bool) (z : Int) (N : Nat) : Fact := ⟨fun v W => SizB W v s z N, fun _ _ _ h hb => h.below hb⟩
def FWd (z : Int) (N : Nat) : Fact := ⟨fun v W => Wd W v z N, fun _ _ _ h hb => h.below hb⟩
theorem tell_of {s : Bool} {ds : List Int} {z t : Int} (h : valD ds = z) (hz : t = if s then -z else z) : tellD s ds = t := by
  unfold tellD; rw [h, hz]
set_option maxRecDepth 100000 in
set_option maxHeartbeats 4000000 in
theorem dPlus_same (v u : Value) (x y : Int) (N M : Nat) (w : World) (hv : Wd w v x N) (hu : Wd w u y M) (hN : N ≤ 2000) (hM : M ≤ 2000) (hs : decide (x < 0) = decide (y < 0)) :
    Calls Try.prog 61 #[v, u] w fun e w' => (∃ r, e = .returned r ∧ Wd w' r (x + y) (max N M + 1)) ∧ Below w.heap.size w w' := by
  obtain ⟨A, n, c, a, rfl, hr, hd, ht, hva, hn⟩ := hv
  obtain ⟨B, m, d, b, rfl, hr2, hd2, ht2, hvb, hm⟩ := hu
  have HD1 := Lib.hid hd
  have HD2 := Lib.hid hd2
  have HT1 := Lib.hid ht
  have HT2 := Lib.hid ht2
  have HV1 := Lib.hid hva
  have HV2 := Lib.hid hvb
  clear hva hvb hd hd2 ht ht2
  have HSG : Hid (∀ ds, valD ds = valD a + valD b → tellD (decide (x < 0)) ds = x + y) := fun ds h => tell_of h (by
    rw [HV1.out, HV2.out]
    by_cases h1 : x < 0
    · have h2 : y < 0 := by simpa [h1] using hs
      simp only [h1, decide_true, if_true]; omega
    · have h2 : ¬ y < 0 := by simpa [h1] using hs
      simp only [h1, decide_false, Bool.false_eq_true, if_false]; omega)
  rw [← hs]
  generalize decide (x < 0) = sx at *
  clear hs
  have hbe : (sx == sx) = true := by simp
  go_enter Try.func61, Try.ntmps61
  go_wp2
  obtain ⟨W2, hW2⟩ : ∃ W2, W2 = ((w.alloc (.cells #[.bool sx, .slice A n c] 86)).alloc (.cells #[.bool sx, .slice B m d] 86)).alloc (.cells #[.bool false, .slice none 0 0] 86) := ⟨_, rfl⟩
  have p0 : W2.cell? ⟨w.heap.size, 0, none⟩ = some (.bool sx) := by rw [hW2]; go_simp
  have p1 : W2.cell? ⟨w.heap.size, 1, none⟩ = some (.slice A n c) := by rw [hW2]; go_simp
  have s0 : W2.cell? ⟨w.heap.size + 1, 0, none⟩ = some (.bool sx) := by rw [hW2]; go_simp
  have s1 : W2.cell? ⟨w.heap.size + 1, 1, none⟩ = some (.slice B m d) := by rw [hW2]; go_simp
  have e0 : Box W2 (w.heap.size + 1 + 1) 0 (.bool false) := by rw [hW2]; constructor <;> go_simp
  have e1 : Box W2 (w.heap.size + 1 + 1) 1 (.slice none 0 0) := by rw [hW2]; constructor <;> go_simp
  have hg0 : W2.heap[w.heap.size + 1 + 1]? = some (.cells #[.bool false, .slice none 0 0] 86 (0, 0)) := by rw [hW2]; exact (by simpa using heap_alloc_new ((w.alloc (.cells #[.bool sx, .slice A n c] 86)).alloc (.cells #[.bool sx, .slice B m d] 86)) (.cells #[.bool false, .slice none 0 0] 86))
  have hB : Below w.heap.size w W2 := by rw [hW2]; exact below_al (below_al (below_al (Below.refl _ _) _) _) _
  rw [← hW2]
  obtain ⟨b1, hb1⟩ : ∃ b, b = w.heap.size := ⟨_, rfl⟩
  obtain ⟨b2, hb2⟩ : ∃ b, b = w.heap.size + 1 := ⟨_, rfl⟩
  obtain ⟨b0, hb0⟩ : ∃ b, b = w.heap.size + 1 + 1 := ⟨_, rfl⟩
  rw [show Value.pointer (some ⟨w.heap.size, 0, none⟩) = Value.pointer (some ⟨b1, 0, none⟩) by rw [hb1], show Value.pointer (some ⟨w.heap.size + 1, 0, none⟩) = Value.pointer (some ⟨b2, 0, none⟩) by rw [hb2], show Value.pointer (some ⟨w.heap.size + 1 + 1, 0, none⟩) = Value.pointer (some ⟨b0, 0, none⟩) by rw [hb0]]
  rw [← hb1] at p0 p1
  rw [← hb2] at s0 s1
  rw [← hb0] at e0 e1 hg0
  have hwb : w.heap.size ≤ b0 := by omega
  have HBZ := Lib.hid hB.size
  have hr' := hr.below hB
  have hr2' := hr2.below hB
  clear hW2 hb1 hb2 hb0
  have H6 := Lib.hid (fun W h1 h2 => dplus A n c a B m d b W h1 h2 HD1.out HD2.out (by omega) (by omega))
  clear hbe hr hr2
  obtain ⟨T, hT⟩ : ∃ T : Nat → Fact, ∀ t_, T t_ = ([Fact.eq (.pointer (some ⟨b1, 0, none⟩)), Fact.eq (.bool sx), Fact.eq (.pointer (some ⟨b1, 1, none⟩)), Fact.eq (.slice A n c), Fact.eq (.pointer (some ⟨b2, 1, none⟩)), Fact.eq (.slice B m d), FSiz (valD a + valD b) (max n m + 1), FSizB sx (valD a + valD b) (max n m + 1), FWd (x + y) (max N M + 1), Fact.eq (undef)] : List (Fact)).getD t_ Fact.any := ⟨_, fun _ => rfl⟩
  refine region_tabS 9 [(0, 10), (1, 11), (2, 12), (3, 13), (4, 14), (5, 15), (6, 16), (7, 17), (8, 18)] T (by kernel_rfl) (by kernel_rfl) (by kernel_rfl) (by kernel_rfl) (by kernel_rfl) (by kernel_rfl) (by kernel_rfl) ?_ ?_
  · skip
    refine stepsAll_cons (k := 0) ?_ ?_
    · intro fa fx fW hF fB hE K fK
      have ev2 : fa.tmps[2]?.getD undef = .pointer (some ⟨b1, 0, none⟩) := hF.eo 2 (by kernel_rfl)
      refine wpOp_val rfl (wanted_none rfl) ?_ (fK (.pointer (some ⟨b1, 0, none⟩)) fW (Below.refl _ _) (by rw [hT]; exact rfl))
      clear fK hE hF
      go_simp
    refine stepsAll_cons (k := 1) ?_ ?_
    · intro fa fx fW hF fB hE K fK
      have q0 : fx 0 = .pointer (some ⟨b1, 0, none⟩) := by have q := hE ⟨0, .data⟩ (by simp) rfl; rw [hT] at q; exact q
      have ev10 : fa.tmps[10]?.getD undef = .pointer (some ⟨b1, 0, none⟩) := (hF.ev 0 10 (by kernel_rfl)).trans q0
      have z1 := cell_below fB p0
      refine wpOp_val rfl (wanted_none rfl) ?_ (fK (.bool sx) fW (Below.refl _ _) (by rw [hT]; exact rfl))
      clear fK hE hF
      go_simp
    refine stepsAll_cons (k := 2) ?_ ?_
    · intro fa fx fW hF fB hE K fK
      have ev2 : fa.tmps[2]?.getD undef = .pointer (some ⟨b1, 0, none⟩) := hF.eo 2 (by kernel_rfl)
      refine wpOp_val rfl (wanted_none rfl) ?_ (fK (.pointer (some ⟨b1, 1, none⟩)) fW (Below.refl _ _) (by rw [hT]; exact rfl))
      clear fK hE hF
      go_simp
    refine stepsAll_cons (k := 3) ?_ ?_
    · intro fa fx fW hF fB hE K fK
      have q2 : fx 2 = .pointer (some ⟨b1, 1, none⟩) := by have q := hE ⟨2, .data⟩ (by simp) rfl; rw [hT] at q; exact q
      have ev12 : fa.tmps[12]?.getD undef = .pointer (some ⟨b1, 1, none⟩) := (hF.ev 2 12 (by kernel_rfl)).trans q2
      have z3 := cell_below fB p1
      refine wpOp_val rfl (wanted_none rfl) ?_ (fK (.slice A n c) fW (Below.refl _ _) (by rw [hT]; exact rfl))
      clear fK hE hF
      go_simp
    refine stepsAll_cons (k := 4) ?_ ?_
    · intro fa fx fW hF fB hE K fK
      have ev3 : fa.tmps[3]?.getD undef = .pointer (some ⟨b2, 0, none⟩) := hF.eo 3 (by kernel_rfl)
      refine wpOp_val rfl (wanted_none rfl) ?_ (fK (.pointer (some ⟨b2, 1, none⟩)) fW (Below.refl _ _) (by rw [hT]; exact rfl))
      clear fK hE hF
      go_simp
    refine stepsAll_cons (k := 5) ?_ ?_
    · intro fa fx fW hF fB hE K fK
      have q4 : fx 4 = .pointer (some ⟨b2, 1, none⟩) := by have q := hE ⟨4, .data⟩ (by simp) rfl; rw [hT] at q; exact q
      have ev14 : fa.tmps[14]?.getD undef = .pointer (some ⟨b2, 1, none⟩) := (hF.ev 4 14 (by kernel_rfl)).trans q4
      have z5 := cell_below fB s1
      refine wpOp_val rfl (wanted_none rfl) ?_ (fK (.slice B m d) fW (Below.refl _ _) (by rw [hT]; exact rfl))
      clear fK hE hF
      go_simp
    refine stepsAll_cons (k := 6) ?_ ?_
    · intro fa fx fW hF fB hE K fK
      have q3 : fx 3 = .slice A n c := by have q := hE ⟨3, .data⟩ (by simp) rfl; rw [hT] at q; exact q
      have q5 : fx 5 = .slice B m d := by have q := hE ⟨5, .data⟩ (by simp) rfl; rw [hT] at q; exact q
      have ev13 : fa.tmps[13]?.getD undef = .slice A n c := (hF.ev 3 13 (by kernel_rfl)).trans q3
      have ev15 : fa.tmps[15]?.getD undef = .slice B m d := (hF.ev 5 15 (by kernel_rfl)).trans q5
      refine wpOp_call rfl (wanted_none rfl) (by go_simp; exact ⟨rfl, rfl⟩) ?_
      refine (H6.out fW (hr'.below fB) (hr2'.below fB)).mono ?_
      rintro e w' ⟨⟨v6, rfl, hs6⟩, hbb⟩
      exact ⟨_, rfl, fK (v6) (w') (hbb) (by rw [hT]; exact hs6)⟩
    refine stepsAll_cons (k := 7) ?_ ?_
    · intro fa fx fW hF fB hE K fK
      have q1 : fx 1 = .bool sx := by have q := hE ⟨1, .data⟩ (by simp) rfl; rw [hT] at q; exact q
      have q6 : (FSiz (valD a + valD b) (max n m + 1)).p (fx 6) fW := by have q := hE ⟨6, .data⟩ (by simp) rfl; rw [hT] at q; exact q
      have ev11 : fa.tmps[11]?.getD undef = .bool sx := (hF.ev 1 11 (by kernel_rfl)).trans q1
      have ev16 : fa.tmps[16]?.getD undef = fx 6 := hF.ev 6 16 (by kernel_rfl)
      obtain ⟨C6, k6, q6', ds6, e6, r6⟩ := q6
      rw [e6] at ev16
      refine wpOp_val rfl (wanted_none rfl) ?_ (fK (.agg #[.bool sx, .slice C6 k6 q6']) fW (Below.refl _ _) (by rw [hT]; exact ⟨C6, k6, q6', ds6, rfl, r6⟩))
      clear fK hE hF r6
      go_simp
    refine stepsAll_cons (k := 8) ?_ ?_
    · intro fa fx fW hF fB hE K fK
      have q7 : (FSizB sx (valD a + valD b) (max n m + 1)).p (fx 7) fW := by have q := hE ⟨7, .data⟩ (by simp) rfl; rw [hT] at q; exact q
      have ev17 : fa.tmps[17]?.getD undef = fx 7 := hF.ev 7 17 (by kernel_rfl)
      obtain ⟨C7, k7, c7, ds7, e7, hr7, hd7, hv7, hk7⟩ := q7
      rw [e7] at ev17
      have HR7 := Lib.hid (dtrim sx C7 k7 c7 ds7 fW hr7 hd7)
      rw [HSG.out ds7 hv7] at HR7
      clear hr7 hd7 hv7
      refine wpOp_call rfl (wanted_none rfl) (by go_simp; exact ⟨rfl, rfl⟩) ?_
      refine HR7.out.mono ?_
      rintro e w' ⟨⟨v8, rfl, hw8⟩, hbb⟩
      exact ⟨_, rfl, fK (v8) (w') (hbb) (by rw [hT]; exact hw8.more (by omega))⟩
    exact stepsAll_nil
  intro fa fx fW hF fB hx
  have q8 : (FWd (x + y) (max N M + 1)).p (fx 8) fW := by have q := hx 8 (by decide); rw [hT] at q; exact q
  have ev18 : fa.tmps[18]?.getD undef = fx 8 := hF.ev 8 18 (by kernel_rfl)
  have ev4 : fa.tmps[4]?.getD undef = .pointer (some ⟨b0, 0, none⟩) := hF.eo 4 (by kernel_rfl)
  obtain ⟨C8, k8, c8, ds8, e8, r8⟩ := q8
  rw [e8] at ev18
  have hw8 : Wd fW (.agg #[.bool (decide (x + y < 0)), .slice C8 k8 c8]) (x + y) (max N M + 1) := ⟨C8, k8, c8, ds8, rfl, r8⟩
  clear r8
  have y0 := e0.below fB
  have y1 := e1.below fB
  have i0 := y0.cell
  have i1 := y1.cell
  have f0 := y0.free
  have f1 := y1.free
  have hgw := (fB.block _ e0.lt).trans hg0
  refine wpOp_fin rfl (wanted_none rfl) rfl (W' := (fW.setCell ⟨b0, 0, none⟩ (.bool (decide (x + y < 0)))).setCell ⟨b0, 1, none⟩ (.slice C8 k8 c8)) ?_ ?_
  · clear hF hx
    clear hgw hw8
    go_simp
  refine tail_end ?_
  rw [hF.eq]
  clear hF hx
  simp only [putAll, Act.put, List.setIfInBounds_toArray, List.set_cons_zero, List.set_cons_succ, ]
  go_wp2
  refine bodyPost_ret (ret_wide rfl hgw _ _ (by rfl)) rfl ?_
  exact ⟨⟨_, rfl, hw8.boxed hgw 0 1 _ _⟩, below_set (below_set (below_then hB HBZ.out fB) b0 0 _ hwb) b0 1 _ hwb⟩
set_option maxRecDepth 100000 in
set_option maxHeartbeats 4000000 in
theorem dPlus_ge (v u : Value) (x y : Int) (N M : Nat) (w : World) (hv : Wd w v x N) (hu : Wd w u y M) (hN : N ≤ 2000) (_hM : M ≤ 2000) (hs : decide (x < 0) ≠ decide (y < 0)) (hc : y.natAbs ≤ x.natAbs) :
    Calls Try.prog 61 #[v, u] w fun e w' => (∃ r, e = .returned r ∧ Wd w' r (x + y) (max N M + 1)) ∧ Below w.heap.size w w' := by
  obtain ⟨A, n, c, a, rfl, hr, hd, ht, hva, hn⟩ := hv
  obtain ⟨B, m, d, b, rfl, hr2, hd2, ht2, hvb, hm⟩ := hu
  have HD1 := Lib.hid hd
  have HD2 := Lib.hid hd2
  have HT1 := Lib.hid ht
  have HT2 := Lib.hid ht2
  have HV1 := Lib.hid hva
  have HV2 := Lib.hid hvb
  clear hva hvb hd hd2 ht ht2
  have HSG : Hid (∀ ds, valD ds = valD a - valD b → tellD (decide (x < 0)) ds = x + y) := fun ds h => tell_of h (by
    rw [HV1.out, HV2.out]
    by_cases h1 : x < 0
    · have h2 : ¬ y < 0 := by simpa [h1] using hs
      simp [h1]; omega
    · have h2 : y < 0 := by simpa [h1] using hs
      simp [h1]; omega)
  have hbe : (decide (x < 0) == decide (y < 0)) = false := by simpa using hs
  have hle : valD b ≤ valD a := by rw [HV1.out, HV2.out]; omega
  have HLEN := Lib.hid (len_le_of_val HD1.out HD2.out HT2.out hle)
  have HSZ := Lib.hid (fun W h1 h2 => dsize A n c a B m d b W h1 h2 HD1.out HD2.out HT1.out HT2.out)
  have HCV : Hid (cmpV (valD a) (valD b) = 0 ∨ cmpV (valD a) (valD b) = 1) := by
    show _ ∨ _
    rw [HV1.out, HV2.out]
    unfold cmpV
    split <;> (try split) <;> omega
  have HN := Lib.hid (u32s_len hr)
  have HM := Lib.hid (u32s_len hr2)
  have HLE := Lib.hid hle
  generalize cmpV (valD a) (valD b) = r at HSZ HCV
  clear hs hc hle
  generalize decide (x < 0) = sx at *
  generalize decide (y < 0) = sy at *
  have HR0 : Hid (0 ≤ r) := by show _ ≤ _; rcases HCV.out with h | h <;> omega
  clear HCV
  have hr0 := HR0.out
  go_enter Try.func61, Try.ntmps61
  go_wp2_with fail
  obtain ⟨W2, hW2⟩ : ∃ W2, W2 = ((w.alloc (.cells #[.bool sx, .slice A n c] 86)).alloc (.cells #[.bool sy, .slice B m d] 86)).alloc (.cells #[.bool false, .slice none 0 0] 86) := ⟨_, rfl⟩
  have p0 : W2.cell? ⟨w.heap.size, 0, none⟩ = some (.bool sx) := by rw [hW2]; go_simp
  have p1 : W2.cell? ⟨w.heap.size, 1, none⟩ = some (.slice A n c) := by rw [hW2]; go_simp
  have s0 : W2.cell? ⟨w.heap.size + 1, 0, none⟩ = some (.bool sy) := by rw [hW2]; go_simp
  have s1 : W2.cell? ⟨w.heap.size + 1, 1, none⟩ = some (.slice B m d) := by rw [hW2]; go_simp
  have e0 : Box W2 (w.heap.size + 1 + 1) 0 (.bool false) := by rw [hW2]; constructor <;> go_simp
  have e1 : Box W2 (w.heap.size + 1 + 1) 1 (.slice none 0 0) := by rw [hW2]; constructor <;> go_simp
  have hg0 : W2.heap[w.heap.size + 1 + 1]? = some (.cells #[.bool false, .slice none 0 0] 86 (0, 0)) := by rw [hW2]; exact (by simpa using heap_alloc_new ((w.alloc (.cells #[.bool sx, .slice A n c] 86)).alloc (.cells #[.bool sy, .slice B m d] 86)) (.cells #[.bool false, .slice none 0 0] 86))
  have hB : Below w.heap.size w W2 := by rw [hW2]; exact below_al (below_al (below_al (Below.refl _ _) _) _) _
  rw [← hW2]
  obtain ⟨b1, hb1⟩ : ∃ b, b = w.heap.size := ⟨_, rfl⟩
  obtain ⟨b2, hb2⟩ : ∃ b, b = w.heap.size + 1 := ⟨_, rfl⟩
  obtain ⟨b0, hb0⟩ : ∃ b, b = w.heap.size + 1 + 1 := ⟨_, rfl⟩
  rw [show Value.pointer (some ⟨w.heap.size, 0, none⟩) = Value.pointer (some ⟨b1, 0, none⟩) by rw [hb1], show Value.pointer (some ⟨w.heap.size + 1, 0, none⟩) = Value.pointer (some ⟨b2, 0, none⟩) by rw [hb2], show Value.pointer (some ⟨w.heap.size + 1 + 1, 0, none⟩) = Value.pointer (some ⟨b0, 0, none⟩) by rw [hb0]]
  rw [← hb1] at p0 p1
  rw [← hb2] at s0 s1
  rw [← hb0] at e0 e1 hg0
  have hwb : w.heap.size ≤ b0 := by omega
  have HBZ := Lib.hid hB.size
  have hr' := hr.below hB
  have hr2' := hr2.below hB
  clear hW2 hb1 hb2 hb0
  have H6 := Lib.hid (fun W h1 h2 => dless A n c a B m d b W h1 h2 HD1.out HD2.out (by omega) (by have := HLEN.out; have := HN.out; have := HM.out; omega) HLE.out)
  clear hbe hr hr2
  go_wp2_with (go_at_call 77; (with_reducible refine (HSZ.out _ hr' hr2').mono ?_); rintro e w5 ⟨rfl, hb5⟩)
  have HBW := Lib.hid (below_then hB HBZ.out hb5)
  have p0 := cell_below hb5 p0
  have p1 := cell_below hb5 p1
  have s0 := cell_below hb5 s0
  have s1 := cell_below hb5 s1
  have hg0 := (hb5.block _ e0.lt).trans hg0
  have e0 := e0.below hb5
  have e1 := e1.below hb5
  have hr' := hr'.below hb5
  have hr2' := hr2'.below hb5
  have hB := HBW.out
  have HBZ := Lib.hid hB.size
  clear hb5 HBW
  obtain ⟨T, hT⟩ : ∃ T : Nat → Fact, ∀ t_, T t_ = ([Fact.eq (.pointer (some ⟨b1, 0, none⟩)), Fact.eq (.bool sx), Fact.eq (.pointer (some ⟨b1, 1, none⟩)), Fact.eq (.slice A n c), Fact.eq (.pointer (some ⟨b2, 1, none⟩)), Fact.eq (.slice B m d), FSiz (valD a - valD b) n, FSizB sx (valD a - valD b) n, FWd (x + y) (max N M + 1), Fact.eq (undef)] : List (Fact)).getD t_ Fact.any := ⟨_, fun _ => rfl⟩
  refine region_tabS 9 [(0, 25), (1, 26), (2, 27), (3, 28), (4, 29), (5, 30), (6, 31), (7, 32), (8, 33)] T (by kernel_rfl) (by kernel_rfl) (by kernel_rfl) (by kernel_rfl) (by kernel_rfl) (by kernel_rfl) (by kernel_rfl) ?_ ?_
  · skip
    refine stepsAll_cons (k := 0) ?_ ?_
    · intro fa fx fW hF fB hE K fK
      have ev2 : fa.tmps[2]?.getD undef = .pointer (some ⟨b1, 0, none⟩) := hF.eo 2 (by kernel_rfl)
      refine wpOp_val rfl (wanted_none rfl) ?_ (fK (.pointer (some ⟨b1, 0, none⟩)) fW (Below.refl _ _) (by rw [hT]; exact rfl))
      clear fK hE hF
      go_simp
    refine stepsAll_cons (k := 1) ?_ ?_
    · intro fa fx fW hF fB hE K fK
      have q0 : fx 0 = .pointer (some ⟨b1, 0, none⟩) := by have q := hE ⟨0, .data⟩ (by simp) rfl; rw [hT] at q; exact q
      have ev25 : fa.tmps[25]?.getD undef = .pointer (some ⟨b1, 0, none⟩) := (hF.ev 0 25 (by kernel_rfl)).trans q0
      have z1 := cell_below fB p0
      refine wpOp_val rfl (wanted_none rfl) ?_ (fK (.bool sx) fW (Below.refl _ _) (by rw [hT]; exact rfl))
      clear fK hE hF
      go_simp
    refine stepsAll_cons (k := 2) ?_ ?_
    · intro fa fx fW hF fB hE K fK
      have ev2 : fa.tmps[2]?.getD undef = .pointer (some ⟨b1, 0, none⟩) := hF.eo 2 (by kernel_rfl)
      refine wpOp_val rfl (wanted_none rfl) ?_ (fK (.pointer (some ⟨b1, 1, none⟩)) fW (Below.refl _ _) (by rw [hT]; exact rfl))
      clear fK hE hF
      go_simp
    refine stepsAll_cons (k := 3) ?_ ?_
    · intro fa fx fW hF fB hE K fK
      have q2 : fx 2 = .pointer (some ⟨b1, 1, none⟩) := by have q := hE ⟨2, .data⟩ (by simp) rfl; rw [hT] at q; exact q
      have ev27 : fa.tmps[27]?.getD undef = .pointer (some ⟨b1, 1, none⟩) := (hF.ev 2 27 (by kernel_rfl)).trans q2
      have z3 := cell_below fB p1
      refine wpOp_val rfl (wanted_none rfl) ?_ (fK (.slice A n c) fW (Below.refl _ _) (by rw [hT]; exact rfl))
      clear fK hE hF
      go_simp
    refine stepsAll_cons (k := 4) ?_ ?_
    · intro fa fx fW hF fB hE K fK
      have ev3 : fa.tmps[3]?.getD undef = .pointer (some ⟨b2, 0, none⟩) := hF.eo 3 (by kernel_rfl)
      refine wpOp_val rfl (wanted_none rfl) ?_ (fK (.pointer (some ⟨b2, 1, none⟩)) fW (Below.refl _ _) (by rw [hT]; exact rfl))
      clear fK hE hF
      go_simp
    refine stepsAll_cons (k := 5) ?_ ?_
    · intro fa fx fW hF fB hE K fK
      have q4 : fx 4 = .pointer (some ⟨b2, 1, none⟩) := by have q := hE ⟨4, .data⟩ (by simp) rfl; rw [hT] at q; exact q
      have ev29 : fa.tmps[29]?.getD undef = .pointer (some ⟨b2, 1, none⟩) := (hF.ev 4 29 (by kernel_rfl)).trans q4
      have z5 := cell_below fB s1
      refine wpOp_val rfl (wanted_none rfl) ?_ (fK (.slice B m d) fW (Below.refl _ _) (by rw [hT]; exact rfl))
      clear fK hE hF
      go_simp
    refine stepsAll_cons (k := 6) ?_ ?_
    · intro fa fx fW hF fB hE K fK
      have q3 : fx 3 = .slice A n c := by have q := hE ⟨3, .data⟩ (by simp) rfl; rw [hT] at q; exact q
      have q5 : fx 5 = .slice B m d := by have q := hE ⟨5, .data⟩ (by simp) rfl; rw [hT] at q; exact q
      have ev28 : fa.tmps[28]?.getD undef = .slice A n c := (hF.ev 3 28 (by kernel_rfl)).trans q3
      have ev30 : fa.tmps[30]?.getD undef = .slice B m d := (hF.ev 5 30 (by kernel_rfl)).trans q5
      refine wpOp_call rfl (wanted_none rfl) (by go_simp; exact ⟨rfl, rfl⟩) ?_
      refine (H6.out fW (hr'.below fB) (hr2'.below fB)).mono ?_
      rintro e w' ⟨⟨v6, rfl, hs6⟩, hbb⟩
      exact ⟨_, rfl, fK (v6) (w') (hbb) (by rw [hT]; exact hs6)⟩
    refine stepsAll_cons (k := 7) ?_ ?_
    · intro fa fx fW hF fB hE K fK
      have q1 : fx 1 = .bool sx := by have q := hE ⟨1, .data⟩ (by simp) rfl; rw [hT] at q; exact q
      have q6 : (FSiz (valD a - valD b) n).p (fx 6) fW := by have q := hE ⟨6, .data⟩ (by simp) rfl; rw [hT] at q; exact q
      have ev26 : fa.tmps[26]?.getD undef = .bool sx := (hF.ev 1 26 (by kernel_rfl)).trans q1
      have ev31 : fa.tmps[31]?.getD undef = fx 6 := hF.ev 6 31 (by kernel_rfl)
      obtain ⟨C6, k6, q6', ds6, e6, r6⟩ := q6
      rw [e6] at ev31
      refine wpOp_val rfl (wanted_none rfl) ?_ (fK (.agg #[.bool sx, .slice C6 k6 q6']) fW (Below.refl _ _) (by rw [hT]; exact ⟨C6, k6, q6', ds6, rfl, r6⟩))
      clear fK hE hF r6
      go_simp
    refine stepsAll_cons (k := 8) ?_ ?_
    · intro fa fx fW hF fB hE K fK
      have q7 : (FSizB sx (valD a - valD b) n).p (fx 7) fW := by have q := hE ⟨7, .data⟩ (by simp) rfl; rw [hT] at q; exact q
      have ev32 : fa.tmps[32]?.getD undef = fx 7 := hF.ev 7 32 (by kernel_rfl)
      obtain ⟨C7, k7, c7, ds7, e7, hr7, hd7, hv7, hk7⟩ := q7
      rw [e7] at ev32
      have HR7 := Lib.hid (dtrim sx C7 k7 c7 ds7 fW hr7 hd7)
      rw [HSG.out ds7 hv7] at HR7
      clear hr7 hd7 hv7
      refine wpOp_call rfl (wanted_none rfl) (by go_simp; exact ⟨rfl, rfl⟩) ?_
      refine HR7.out.mono ?_
      rintro e w' ⟨⟨v8, rfl, hw8⟩, hbb⟩
      exact ⟨_, rfl, fK (v8) (w') (hbb) (by rw [hT]; exact hw8.more (by omega))⟩
    exact stepsAll_nil
  intro fa fx fW hF fB hx
  have q8 : (FWd (x + y) (max N M + 1)).p (fx 8) fW := by have q := hx 8 (by decide); rw [hT] at q; exact q
  have ev33 : fa.tmps[33]?.getD undef = fx 8 := hF.ev 8 33 (by kernel_rfl)
  have ev4 : fa.tmps[4]?.getD undef = .pointer (some ⟨b0, 0, none⟩) := hF.eo 4 (by kernel_rfl)
  obtain ⟨C8, k8, c8, ds8, e8, r8⟩ := q8
  rw [e8] at ev33
  have hw8 : Wd fW (.agg #[.bool (decide (x + y < 0)), .slice C8 k8 c8]) (x + y) (max N M + 1) := ⟨C8, k8, c8, ds8, rfl, r8⟩
  clear r8
  have y0 := e0.below fB
  have y1 := e1.below fB
  have i0 := y0.cell
  have i1 := y1.cell
  have f0 := y0.free
  have f1 := y1.free
  have hgw := (fB.block _ e0.lt).trans hg0
  refine wpOp_fin rfl (wanted_none rfl) rfl (W' := (fW.setCell ⟨b0, 0, none⟩ (.bool (decide (x + y < 0)))).setCell ⟨b0, 1, none⟩ (.slice C8 k8 c8)) ?_ ?_
  · clear hF hx
    clear hgw hw8
    go_simp
  refine tail_end ?_
  rw [hF.eq]
  clear hF hx
  simp only [putAll, Act.put, List.setIfInBounds_toArray, List.set_cons_zero, List.set_cons_succ, ]
  go_wp2
  refine bodyPost_ret (ret_wide rfl hgw _ _ (by rfl)) rfl ?_
  exact ⟨⟨_, rfl, hw8.boxed hgw 0 1 _ _⟩, below_set (below_set (below_then hB HBZ.out fB) b0 0 _ hwb) b0 1 _ hwb⟩
set_option maxRecDepth 100000 in
set_option maxHeartbeats 4000000 in
theorem dPlus_lt (v u : Value) (x y : Int) (N M : Nat) (w : World) (hv : Wd w v x N) (hu : Wd w u y M) (_hN : N ≤ 2000) (hM : M ≤ 2000) (hs : decide (x < 0) ≠ decide (y < 0)) (hc : ¬ y.natAbs ≤ x.natAbs) :
    Calls Try.prog 61 #[v, u] w fun e w' => (∃ r, e = .returned r ∧ Wd w' r (x + y) (max N M + 1)) ∧ Below w.heap.size w w' := by
  obtain ⟨A, n, c, a, rfl, hr, hd, ht, hva, hn⟩ := hv
  obtain ⟨B, m, d, b, rfl, hr2, hd2, ht2, hvb, hm⟩ := hu
  have HD1 := Lib.hid hd
  have HD2 := Lib.hid hd2
  have HT1 := Lib.hid ht
  have HT2 := Lib.hid ht2
  have HV1 := Lib.hid hva
  have HV2 := Lib.hid hvb
  clear hva hvb hd hd2 ht ht2
  have HSG : Hid (∀ ds, valD ds = valD b - valD a → tellD (decide (y < 0)) ds = x + y) := fun ds h => tell_of h (by
    rw [HV1.out, HV2.out]
    by_cases h1 : x < 0
    · have h2 : ¬ y < 0 := by simpa [h1] using hs
      simp [h2]; omega
    · have h2 : y < 0 := by simpa [h1] using hs
      simp [h2]; omega)
  have hbe : (decide (x < 0) == decide (y < 0)) = false := by simpa using hs
  have hle : valD a ≤ valD b := by rw [HV1.out, HV2.out]; omega
  have HLEN := Lib.hid (len_le_of_val HD2.out HD1.out HT1.out hle)
  have HSZ := Lib.hid (fun W h1 h2 => dsize A n c a B m d b W h1 h2 HD1.out HD2.out HT1.out HT2.out)
  have HCV : Hid (cmpV (valD a) (valD b) = -1) := by
    show _ = _
    rw [HV1.out, HV2.out]
    unfold cmpV
    rw [if_pos (by omega)]
  have HN := Lib.hid (u32s_len hr)
  have HM := Lib.hid (u32s_len hr2)
  have HLE := Lib.hid hle
  generalize cmpV (valD a) (valD b) = r at HSZ HCV
  clear hs hc hle
  generalize decide (x < 0) = sx at *
  generalize decide (y < 0) = sy at *
  have hr0 := HCV.out
  subst hr0
  go_enter Try.func61, Try.ntmps61
  go_wp2_with fail
  obtain ⟨W2, hW2⟩ : ∃ W2, W2 = ((w.alloc (.cells #[.bool sx, .slice A n c] 86)).alloc (.cells #[.bool sy, .slice B m d] 86)).alloc (.cells #[.bool false, .slice none 0 0] 86) := ⟨_, rfl⟩
  have p0 : W2.cell? ⟨w.heap.size, 0, none⟩ = some (.bool sx) := by rw [hW2]; go_simp
  have p1 : W2.cell? ⟨w.heap.size, 1, none⟩ = some (.slice A n c) := by rw [hW2]; go_simp
  have s0 : W2.cell? ⟨w.heap.size + 1, 0, none⟩ = some (.bool sy) := by rw [hW2]; go_simp
  have s1 : W2.cell? ⟨w.heap.size + 1, 1, none⟩ = some (.slice B m d) := by rw [hW2]; go_simp
  have e0 : Box W2 (w.heap.size + 1 + 1) 0 (.bool false) := by rw [hW2]; constructor <;> go_simp
  have e1 : Box W2 (w.heap.size + 1 + 1) 1 (.slice none 0 0) := by rw [hW2]; constructor <;> go_simp
  have hg0 : W2.heap[w.heap.size + 1 + 1]? = some (.cells #[.bool false, .slice none 0 0] 86 (0, 0)) := by rw [hW2]; exact (by simpa using heap_alloc_new ((w.alloc (.cells #[.bool sx, .slice A n c] 86)).alloc (.cells #[.bool sy, .slice B m d] 86)) (.cells #[.bool false, .slice none 0 0] 86))
  have hB : Below w.heap.size w W2 := by rw [hW2]; exact below_al (below_al (below_al (Below.refl _ _) _) _) _
  rw [← hW2]
  obtain ⟨b1, hb1⟩ : ∃ b, b = w.heap.size := ⟨_, rfl⟩
  obtain ⟨b2, hb2⟩ : ∃ b, b = w.heap.size + 1 := ⟨_, rfl⟩
  obtain ⟨b0, hb0⟩ : ∃ b, b = w.heap.size + 1 + 1 := ⟨_, rfl⟩
  rw [show Value.pointer (some ⟨w.heap.size, 0, none⟩) = Value.pointer (some ⟨b1, 0, none⟩) by rw [hb1], show Value.pointer (some ⟨w.heap.size + 1, 0, none⟩) = Value.pointer (some ⟨b2, 0, none⟩) by rw [hb2], show Value.pointer (some ⟨w.heap.size + 1 + 1, 0, none⟩) = Value.pointer (some ⟨b0, 0, none⟩) by rw [hb0]]
  rw [← hb1] at p0 p1
  rw [← hb2] at s0 s1
  rw [← hb0] at e0 e1 hg0
  have hwb : w.heap.size ≤ b0 := by omega
  have HBZ := Lib.hid hB.size
  have hr' := hr.below hB
  have hr2' := hr2.below hB
  clear hW2 hb1 hb2 hb0
  have H6 := Lib.hid (fun W h1 h2 => dless B m d b A n c a W h1 h2 HD2.out HD1.out (by omega) (by have := HLEN.out; have := HN.out; have := HM.out; omega) HLE.out)
  clear hbe hr hr2
  go_wp2_with (go_at_call 77; (with_reducible refine (HSZ.out _ hr' hr2').mono ?_); rintro e w5 ⟨rfl, hb5⟩)
  have HBW := Lib.hid (below_then hB HBZ.out hb5)
  have p0 := cell_below hb5 p0
  have p1 := cell_below hb5 p1
  have s0 := cell_below hb5 s0
  have s1 := cell_below hb5 s1
  have hg0 := (hb5.block _ e0.lt).trans hg0
  have e0 := e0.below hb5
  have e1 := e1.below hb5
  have hr' := hr'.below hb5
  have hr2' := hr2'.below hb5
  have hB := HBW.out
  have HBZ := Lib.hid hB.size
  clear hb5 HBW
  obtain ⟨T, hT⟩ : ∃ T : Nat → Fact, ∀ t_, T t_ = ([Fact.eq (.pointer (some ⟨b2, 0, none⟩)), Fact.eq (.bool sy), Fact.eq (.pointer (some ⟨b2, 1, none⟩)), Fact.eq (.slice B m d), Fact.eq (.pointer (some ⟨b1, 1, none⟩)), Fact.eq (.slice A n c), FSiz (valD b - valD a) m, FSizB sy (valD b - valD a) m, FWd (x + y) (max N M + 1), Fact.eq (undef)] : List (Fact)).getD t_ Fact.any := ⟨_, fun _ => rfl⟩
  refine region_tabS 9 [(0, 34), (1, 35), (2, 36), (3, 37), (4, 38), (5, 39), (6, 40), (7, 41), (8, 42)] T (by kernel_rfl) (by kernel_rfl) (by kernel_rfl) (by kernel_rfl) (by kernel_rfl) (by kernel_rfl) (by kernel_rfl) ?_ ?_
  · skip
    refine stepsAll_cons (k := 0) ?_ ?_
    · intro fa fx fW hF fB hE K fK
      have ev3 : fa.tmps[3]?.getD undef = .pointer (some ⟨b2, 0, none⟩) := hF.eo 3 (by kernel_rfl)
      refine wpOp_val rfl (wanted_none rfl) ?_ (fK (.pointer (some ⟨b2, 0, none⟩)) fW (Below.refl _ _) (by rw [hT]; exact rfl))
      clear fK hE hF
      go_simp
    refine stepsAll_cons (k := 1) ?_ ?_
    · intro fa fx fW hF fB hE K fK
      have q0 : fx 0 = .pointer (some ⟨b2, 0, none⟩) := by have q := hE ⟨0, .data⟩ (by simp) rfl; rw [hT] at q; exact q
      have ev34 : fa.tmps[34]?.getD undef = .pointer (some ⟨b2, 0, none⟩) := (hF.ev 0 34 (by kernel_rfl)).trans q0
      have z1 := cell_below fB s0
      refine wpOp_val rfl (wanted_none rfl) ?_ (fK (.bool sy) fW (Below.refl _ _) (by rw [hT]; exact rfl))
      clear fK hE hF
      go_simp
    refine stepsAll_cons (k := 2) ?_ ?_
    · intro fa fx fW hF fB hE K fK
      have ev3 : fa.tmps[3]?.getD undef = .pointer (some ⟨b2, 0, none⟩) := hF.eo 3 (by kernel_rfl)
      refine wpOp_val rfl (wanted_none rfl) ?_ (fK (.pointer (some ⟨b2, 1, none⟩)) fW (Below.refl _ _) (by rw [hT]; exact rfl))
      clear fK hE hF
      go_simp
    refine stepsAll_cons (k := 3) ?_ ?_
    · intro fa fx fW hF fB hE K fK
      have q2 : fx 2 = .pointer (some ⟨b2, 1, none⟩) := by have q := hE ⟨2, .data⟩ (by simp) rfl; rw [hT] at q; exact q
      have ev36 : fa.tmps[36]?.getD undef = .pointer (some ⟨b2, 1, none⟩) := (hF.ev 2 36 (by kernel_rfl)).trans q2
      have z3 := cell_below fB s1
      refine wpOp_val rfl (wanted_none rfl) ?_ (fK (.slice B m d) fW (Below.refl _ _) (by rw [hT]; exact rfl))
      clear fK hE hF
      go_simp
    refine stepsAll_cons (k := 4) ?_ ?_
    · intro fa fx fW hF fB hE K fK
      have ev2 : fa.tmps[2]?.getD undef = .pointer (some ⟨b1, 0, none⟩) := hF.eo 2 (by kernel_rfl)
      refine wpOp_val rfl (wanted_none rfl) ?_ (fK (.pointer (some ⟨b1, 1, none⟩)) fW (Below.refl _ _) (by rw [hT]; exact rfl))
      clear fK hE hF
      go_simp
    refine stepsAll_cons (k := 5) ?_ ?_
    · intro fa fx fW hF fB hE K fK
      have q4 : fx 4 = .pointer (some ⟨b1, 1, none⟩) := by have q := hE ⟨4, .data⟩ (by simp) rfl; rw [hT] at q; exact q
      have ev38 : fa.tmps[38]?.getD undef = .pointer (some ⟨b1, 1, none⟩) := (hF.ev 4 38 (by kernel_rfl)).trans q4
      have z5 := cell_below fB p1
      refine wpOp_val rfl (wanted_none rfl) ?_ (fK (.slice A n c) fW (Below.refl _ _) (by rw [hT]; exact rfl))
      clear fK hE hF
      go_simp
    refine stepsAll_cons (k := 6) ?_ ?_
    · intro fa fx fW hF fB hE K fK
      have q3 : fx 3 = .slice B m d := by have q := hE ⟨3, .data⟩ (by simp) rfl; rw [hT] at q; exact q
      have q5 : fx 5 = .slice A n c := by have q := hE ⟨5, .data⟩ (by simp) rfl; rw [hT] at q; exact q
      have ev37 : fa.tmps[37]?.getD undef = .slice B m d := (hF.ev 3 37 (by kernel_rfl)).trans q3
      have ev39 : fa.tmps[39]?.getD undef = .slice A n c := (hF.ev 5 39 (by kernel_rfl)).trans q5
      refine wpOp_call rfl (wanted_none rfl) (by go_simp; exact ⟨rfl, rfl⟩) ?_
      refine (H6.out fW (hr2'.below fB) (hr'.below fB)).mono ?_
      rintro e w' ⟨⟨v6, rfl, hs6⟩, hbb⟩
      exact ⟨_, rfl, fK (v6) (w') (hbb) (by rw [hT]; exact hs6)⟩
    refine stepsAll_cons (k := 7) ?_ ?_
    · intro fa fx fW hF fB hE K fK
      have q1 : fx 1 = .bool sy := by have q := hE ⟨1, .data⟩ (by simp) rfl; rw [hT] at q; exact q
      have q6 : (FSiz (valD b - valD a) m).p (fx 6) fW := by have q := hE ⟨6, .data⟩ (by simp) rfl; rw [hT] at q; exact q
      have ev35 : fa.tmps[35]?.getD undef = .bool sy := (hF.ev 1 35 (by kernel_rfl)).trans q1
      have ev40 : fa.tmps[40]?.getD undef = fx 6 := hF.ev 6 40 (by kernel_rfl)
      obtain ⟨C6, k6, q6', ds6, e6, r6⟩ := q6
      rw [e6] at ev40
      refine wpOp_val rfl (wanted_none rfl) ?_ (fK (.agg #[.bool sy, .slice C6 k6 q6']) fW (Below.refl _ _) (by rw [hT]; exact ⟨C6, k6, q6', ds6, rfl, r6⟩))
      clear fK hE hF r6
      go_simp
    refine stepsAll_cons (k := 8) ?_ ?_
    · intro fa fx fW hF fB hE K fK
      have q7 : (FSizB sy (valD b - valD a) m).p (fx 7) fW := by have q := hE ⟨7, .data⟩ (by simp) rfl; rw [hT] at q; exact q
      have ev41 : fa.tmps[41]?.getD undef = fx 7 := hF.ev 7 41 (by kernel_rfl)
      obtain ⟨C7, k7, c7, ds7, e7, hr7, hd7, hv7, hk7⟩ := q7
      rw [e7] at ev41
      have HR7 := Lib.hid (dtrim sy C7 k7 c7 ds7 fW hr7 hd7)
      rw [HSG.out ds7 hv7] at HR7
      clear hr7 hd7 hv7
      refine wpOp_call rfl (wanted_none rfl) (by go_simp; exact ⟨rfl, rfl⟩) ?_
      refine HR7.out.mono ?_
      rintro e w' ⟨⟨v8, rfl, hw8⟩, hbb⟩
      exact ⟨_, rfl, fK (v8) (w') (hbb) (by rw [hT]; exact hw8.more (by omega))⟩
    exact stepsAll_nil
  intro fa fx fW hF fB hx
  have q8 : (FWd (x + y) (max N M + 1)).p (fx 8) fW := by have q := hx 8 (by decide); rw [hT] at q; exact q
  have ev42 : fa.tmps[42]?.getD undef = fx 8 := hF.ev 8 42 (by kernel_rfl)
  have ev4 : fa.tmps[4]?.getD undef = .pointer (some ⟨b0, 0, none⟩) := hF.eo 4 (by kernel_rfl)
  obtain ⟨C8, k8, c8, ds8, e8, r8⟩ := q8
  rw [e8] at ev42
  have hw8 : Wd fW (.agg #[.bool (decide (x + y < 0)), .slice C8 k8 c8]) (x + y) (max N M + 1) := ⟨C8, k8, c8, ds8, rfl, r8⟩
  clear r8
  have y0 := e0.below fB
  have y1 := e1.below fB
  have i0 := y0.cell
  have i1 := y1.cell
  have f0 := y0.free
  have f1 := y1.free
  have hgw := (fB.block _ e0.lt).trans hg0
  refine wpOp_fin rfl (wanted_none rfl) rfl (W' := (fW.setCell ⟨b0, 0, none⟩ (.bool (decide (x + y < 0)))).setCell ⟨b0, 1, none⟩ (.slice C8 k8 c8)) ?_ ?_
  · clear hF hx
    clear hgw hw8
    go_simp
  refine tail_end ?_
  rw [hF.eq]
  clear hF hx
  simp only [putAll, Act.put, List.setIfInBounds_toArray, List.set_cons_zero, List.set_cons_succ, ]
  go_wp2
  refine bodyPost_ret (ret_wide rfl hgw _ _ (by rfl)) rfl ?_
  exact ⟨⟨_, rfl, hw8.boxed hgw 0 1 _ _⟩, below_set (below_set (below_then hB HBZ.out fB) b0 0 _ hwb) b0 1 _ hwb⟩
theorem dPlus (v u : Value) (x y : Int) (N M : Nat) (w : World) (hv : Wd w v x N) (hu : Wd w u y M) (hN : N ≤ 2000) (hM : M ≤ 2000) :
    Calls Try.prog 61 #[v, u] w fun e w' => (∃ r, e = .returned r ∧ Wd w' r (x + y) (max N M + 1)) ∧ Below w.heap.size w w' := by
  by_cases hs : decide (x < 0) = decide (y < 0)
  · exact dPlus_same v u x y N M w hv hu hN hM hs
  · by_cases hc : y.natAbs ≤ x.natAbs
    · exact dPlus_ge v u x y N M w hv hu hN hM hs hc
    · exact dPlus_lt v u x y N M w hv hu hN hM hs hc
set_option maxRecDepth 100000 in
set_option maxHeartbeats 2000000 in
theorem dMinus (v : Value) (x : Int) (N : Nat) (w : World) (hv : Wd w v x N) :
    Calls Try.prog 63 #[v] w fun e w' => (∃ r, e = .returned r ∧ Wd w' r (-x) N) ∧ Below w.heap.size w w' := by
  obtain ⟨A, n, c, a, rfl, hr, hd, ht, hva, hn⟩ := hv
  have HSG : Hid (tellD (!decide (x < 0)) a = -x) := tell_of hva (by
    by_cases h1 : x < 0
    · simp [h1]; omega
    · simp [h1]; omega)
  have HT := Lib.hid (fun W h => dtrim (!decide (x < 0)) A n c a W h hd)
  rw [HSG.out] at HT
  generalize decide (x < 0) = sx at *
  clear hd ht hva HSG
  go_enter Try.func63, Try.ntmps63
  go_wp2_with fail
  obtain ⟨W2, hW2⟩ : ∃ W2, W2 = (w.alloc (.cells #[.bool sx, .slice A n c] 86)).alloc (.cells #[.bool false, .slice none 0 0] 86) := ⟨_, rfl⟩
  have e0 : Box W2 (w.heap.size + 1) 0 (.bool false) := by rw [hW2]; constructor <;> go_simp
  have e1 : Box W2 (w.heap.size + 1) 1 (.slice none 0 0) := by rw [hW2]; constructor <;> go_simp
  have hg0 : W2.heap[w.heap.size + 1]? = some (.cells #[.bool false, .slice none 0 0] 86 (0, 0)) := by rw [hW2]; exact (by simpa using heap_alloc_new (w.alloc (.cells #[.bool sx, .slice A n c] 86)) (.cells #[.bool false, .slice none 0 0] 86))
  have hB : Below w.heap.size w W2 := by rw [hW2]; exact below_al (below_al (Below.refl _ _) _) _
  rw [← hW2]
  have hr' := hr.below hB
  clear hW2 hr
  obtain ⟨b0, hb0⟩ : ∃ b, b = w.heap.size + 1 := ⟨_, rfl⟩
  rw [show Value.pointer (some ⟨w.heap.size + 1, 0, none⟩) = Value.pointer (some ⟨b0, 0, none⟩) by rw [hb0]]
  rw [← hb0] at e0 e1 hg0
  have hwb : w.heap.size ≤ b0 := by omega
  clear hb0
  go_wp2_with (go_at_call 75; (with_reducible refine (HT.out _ hr').mono ?_); rintro e w5 ⟨⟨v5, rfl, A5, n5, c5, ds5, rfl, hr5⟩, hb5⟩; have y0 := e0.below hb5; have y1 := e1.below hb5; have i0 := y0.cell; have i1 := y1.cell; have f0 := y0.free; have f1 := y1.free)
  have hgw := (hb5.block _ e0.lt).trans hg0
  have hw8 : Wd w5 (.agg #[.bool (decide (-x < 0)), .slice A5 n5 c5]) (-x) n := ⟨A5, n5, c5, ds5, rfl, hr5⟩
  rw [show decide (-x < 0) = decide (0 < x) by simp] at hw8
  refine bodyPost_ret (ret_wide rfl hgw _ _ (by rfl)) rfl ?_
  exact ⟨⟨_, rfl, (hw8.boxed hgw 0 1 _ _).more hn⟩, below_set (below_set (below_then hB hB.size hb5) b0 0 _ hwb) b0 1 _ hwb⟩
end Go.Proofs.Ytopikpjagjnbhaa

/- wherryref01: Int, told. -/
namespace Go.Proofs.Ytopikpjagjnbhaa
open Go.RowKit
theorem or16 (u d : Int) (h0 : 0 ≤ u) (h1 : u < 281474976710656) (h2 : 0 ≤ d) (h3 : d < 65536) : bits BinOp.or IntKind.u64 (u * 65536) d = u * 65536 + d := by
  obtain ⟨k, rfl⟩ : ∃ k : Nat, u = k := ⟨u.toNat, by omega⟩
  obtain ⟨j, rfl⟩ : ∃ j : Nat, d = j := ⟨d.toNat, by omega⟩
  have e := u64_or_nat (k * 65536) j (by omega) (by omega)
  rw [nat_join 16 (k * 65536) j (by omega) (by omega)] at e
  rw [show (k : Int) * 65536 = ((k * 65536 : Nat) : Int) by omega, e]
  omega
theorem valD_drop1 {ds : List Int} {k : Nat} (h : k < ds.length) : valD (ds.drop k) = ds.getD k 0 + 65536 * valD (ds.drop (k + 1)) := by
  rw [show ds.drop k = ds[k] :: ds.drop (k + 1) by rw [List.getElem_cons_drop], valD, getD_get h]
theorem int_no {ds : List Int} (hd : Dig ds) (ht : Trimmed ds) {z : Int} (hv : valD ds = z.natAbs) (hn : 4 < ds.length) : fitB z = false := by
  have h1 := valD_ge hd ht (by intro e; rw [e] at hn; simp at hn)
  have h2 := pw_mono (show 4 ≤ ds.length - 1 by omega)
  rw [show pw 4 = 18446744073709551616 from rfl] at h2
  refine (fit_no ?_).2
  unfold I64
  omega
def IntR (z : Int) (e : Ending) : Prop := ∃ r, e = .returned (.tuple #[.int .i64 r, .bool (fitB z)]) ∧ (I64 z → r = z)
theorem intR_of {z r : Int} {b : Bool} (hb : b = fitB z) (hr : I64 z → r = z) : IntR z (.returned (.tuple #[.int .i64 r, .bool b])) := ⟨r, by rw [hb], hr⟩
set_option maxRecDepth 100000 in
set_option maxHeartbeats 2000000 in
theorem dInt (v : Value) (z : Int) (N : Nat) (w : World) (hv : Wd w v z N) :
    Calls Try.prog 74 #[v] w fun e w' => IntR z e ∧ Below w.heap.size w w' := by
  obtain ⟨A, n, c, a, rfl, hr, hd, ht, hva, hn⟩ := hv
  have HN := Lib.hid (u32s_len hr)
  by_cases h4 : 4 < n
  · have HF := Lib.hid (int_no hd ht hva (by rw [HN.out]; exact h4))
    have HR : Hid (∀ b, fitB z = b → IntR z (.returned (.tuple #[.int .i64 0, .bool b]))) := fun b hb => ⟨0, by rw [hb], fun h => by rw [(fit_yes h).2] at HF; cases HF.out⟩
    have h4' : (4 : Int) < n := by omega
    clear hva hd ht
    generalize decide (z < 0) = sz at *
    go_enter Try.func74, Try.ntmps74
    go_wp2
    go_ret2
    exact ⟨HR.out _ HF.out, below_al (Below.refl _ _) _⟩
  · have h4' : ¬ (4 : Int) < n := by omega
    have HVA := Lib.hid hva
    have HDD := Lib.hid hd
    have HZ : Hid (decide (z < 0) = decide (z < 0)) := rfl
    obtain ⟨sz, hsz⟩ : ∃ sz, sz = decide (z < 0) := ⟨_, rfl⟩
    rw [← hsz]
    have HSZ := Lib.hid hsz
    clear hva hd ht hsz HZ
    go_enter Try.func74, Try.ntmps74
    go_wp2
    go_loopw [4, 5] (fun u i wr => ∃ (k : Nat) (y : Int), k ≤ n ∧ i = .int .i64 ((k : Int) - 1) ∧ u = .int .u64 y ∧ 0 ≤ y ∧ Hid (y = valD (a.drop k)) ∧ Hid (y < pw (n - k)) ∧ wr = w.alloc (.cells #[.bool sz, .slice A n c] 86)) (fun _ i _ => (intOf i + 1).toNat)
    case atStart => exact ⟨n, 0, Nat.le_refl _, by go_num, rfl, by omega, by show _ = _; rw [List.drop_of_length_le (by rw [HN.out]; exact Nat.le_refl _)]; rfl, by show _ < _; rw [Nat.sub_self, pw_zero]; omega, rfl⟩
    case round =>
      obtain ⟨k, y, hk, rfl, rfl, hy0, HY, HP, rfl⟩ := hrel
      rcases Nat.eq_zero_or_pos k with h0 | h0
      · subst h0
        rw [show ((0 : Nat) : Int) - 1 = -1 by omega]
        have HBD : y < 18446744073709551616 := by
          have h1 := HP.out
          have h2 := pw_mono (show n - 0 ≤ 4 by omega)
          rw [show pw 4 = 18446744073709551616 from rfl] at h2
          omega
        have hy : y = z.natAbs := by rw [HY.out, List.drop_zero, HVA.out]
        have HYZ := Lib.hid hy
        clear hy HY HP
        have hbd : y < 18446744073709551616 := HBD
        cases sz with
        | false =>
          have HR : Hid (IntR z (.returned (.tuple #[.int .i64 (wrap64 y), .bool (decide (y ≤ 9223372036854775807))]))) := by
            have h1 : ¬ z < 0 := by have := HSZ.out; simp at this; omega
            refine intR_of ?_ (fun h => ?_)
            · have h2 := HYZ.out
              rw [show ((z.natAbs : Nat) : Int) = z by omega] at h2
              unfold fitB
              rw [Bool.eq_iff_iff, decide_eq_true_eq, decide_eq_true_eq]
              unfold I64
              constructor <;> intro h <;> omega
            · have := HYZ.out
              rw [wrap64_id (by unfold I64 at h ⊢; omega)]; omega
          go_wp2
          go_ret2
          exact ⟨HR.out, below_al (Below.refl _ _) _⟩
        | true =>
          have HR : Hid (IntR z (.returned (.tuple #[.int .i64 (wrap64 (IntKind.u64.wrap (-y))), .bool (decide (y ≤ 9223372036854775808))]))) := by
            have h1 : z < 0 := by have := HSZ.out; simp at this; omega
            refine intR_of ?_ (fun h => ?_)
            · have h2 := HYZ.out
              rw [show ((z.natAbs : Nat) : Int) = -z by omega] at h2
              unfold fitB
              rw [Bool.eq_iff_iff, decide_eq_true_eq, decide_eq_true_eq]
              unfold I64
              constructor <;> intro h <;> omega
            · have := HYZ.out
              rw [IntKind.wrap_u64]
              unfold I64 at h
              unfold wrap64
              omega
          go_wp2
          go_ret2
          exact ⟨HR.out, below_al (Below.refl _ _) _⟩
      · obtain ⟨j, rfl⟩ : ∃ j, k = j + 1 := ⟨k - 1, by omega⟩
        rw [show ((j + 1 : Nat) : Int) - 1 = j by omega]
        have hj : j < a.length := by rw [HN.out]; omega
        obtain ⟨ad, rfl⟩ := hr.some_ (by omega)
        have hca := hr.cell ad rfl j _ (nums_get .u32 a j hj)
        rw [getD_get hj] at hca
        have hda := dig_getD HDD.out j
        have hj1 : (j : Int) < n := by omega
        have hp := HP.out
        have hp2 := pw_mono (show n - (j + 1) ≤ 3 by omega)
        rw [show pw 3 = 281474976710656 from rfl] at hp2
        have hy1 : y < 281474976710656 := by omega
        have hnew : Hid (y * 65536 + a.getD j 0 = valD (a.drop j)) := by
          show _ = _
          rw [valD_drop1 hj, ← HY.out]; omega
        have hnewp : Hid (y * 65536 + a.getD j 0 < pw (n - j)) := by
          show _ < _
          rw [show n - j = (n - (j + 1)) + 1 by omega, pw_succ]; omega
        clear hp hp2 HY HP
        generalize a.getD j 0 = x at *
        have hor := or16 y x hy0 hy1 hda.1 hda.2
        have hlt : ad.block < w.heap.size := World.block_lt_of_cell? w _ (hr.cell ad rfl 0 _ (List.getElem?_eq_getElem (show 0 < (nums .u32 a).length by rw [hr.len]; omega)))
        have hca2 := cell_below (below_al (Below.refl _ _) (.cells #[.bool sz, .slice (some ad) n c] 86)) hca
        go_wp2
        go_roundw
        case rel => exact ⟨j, _, by omega, by go_num, rfl, by omega, hnew.out, hnewp.out, trivial⟩
        case measure => simp only [intOf]; omega
set_option maxRecDepth 100000 in
set_option maxHeartbeats 2000000 in
theorem dtold (v : Value) (z : Int) (N : Nat) (w : World) (hv : Wd w v z N) :
    Calls Try.prog 60 #[v] w fun e w' => e = .returned (.tuple #[.int .i64 (fitV z), .bool (fitB z)]) ∧ Below w.heap.size w w' := by
  obtain ⟨A, n, c, a, rfl, hr, hd⟩ := hv
  have HI := Lib.hid (fun W h => dInt (.agg #[.bool (decide (z < 0)), .slice A n c]) z N W ⟨A, n, c, a, rfl, h, hd⟩)
  generalize decide (z < 0) = sz at *
  have hr' := hr.below (below_al (Below.refl _ _) (.cells #[.bool sz, .slice A n c] 86))
  have HY : Hid (∀ r, (I64 z → r = z) → I64 z → fitV z = r) := fun r h1 h2 => by rw [(fit_yes h2).1, h1 h2]
  have HN : Hid (¬ I64 z → fitV z = 0) := fun h => (fit_no h).1
  by_cases hz : I64 z
  · have HZ := Lib.hid hz
    have hb := (fit_yes hz).2
    rw [hb]
    unfold IntR at HI
    rw [hb] at HI
    clear hd hr hz hb
    go_enter Try.func60, Try.ntmps60
    go_wp2_with (go_at_call 74; (with_reducible refine (HI.out _ hr').mono ?_); rintro e w1 ⟨⟨r, rfl, hr1⟩, hb1⟩; have HR := Lib.hid (HY.out r hr1 HZ.out); clear hr1)
    go_ret2
    exact ⟨by rw [HR.out]; rfl, below_tr (below_al (Below.refl _ _) _) hb1⟩
  · have hb := (fit_no hz).2
    have HZ := Lib.hid (HN.out hz)
    rw [hb]
    unfold IntR at HI
    rw [hb] at HI
    clear hd hr hz hb
    go_enter Try.func60, Try.ntmps60
    go_wp2_with (go_at_call 74; (with_reducible refine (HI.out _ hr').mono ?_); rintro e w1 ⟨⟨r, rfl, hr1⟩, hb1⟩; clear hr1)
    go_ret2
    exact ⟨by rw [HZ.out]; rfl, below_tr (below_al (Below.refl _ _) _) hb1⟩
end Go.Proofs.Ytopikpjagjnbhaa

/- wherryref01: Sub, Mul. -/
namespace Go.Proofs.Ytopikpjagjnbhaa
open Go.RowKit
set_option maxRecDepth 100000 in
set_option maxHeartbeats 2000000 in
theorem dSub (a b : Int) (w : World) (ha : I64 a) (hb : I64 b) :
    Calls Try.prog 53 #[.int .i64 a, .int .i64 b] w fun e w' => e = .returned (.tuple #[.int .i64 (fitV (a - b)), .bool (fitB (a - b))]) ∧ Below w.heap.size w w' := by
  have HT := Lib.hid (fun v N W h => dtold v (a - b) N W h)
  rw [Int.sub_eq_add_neg] at HT ⊢
  generalize fitV (a + -b) = fv at *
  generalize fitB (a + -b) = fb at *
  go_enter Try.func53, Try.ntmps53
  go_wp2_with (go_at_call 62; (with_reducible refine (dOf a _ ha).mono ?_); rintro e w1 ⟨⟨v1, rfl, hv1⟩, hb1⟩)
  go_wp2_with (go_at_call 62; (with_reducible refine (dOf b _ hb).mono ?_); rintro e w2 ⟨⟨v2, rfl, hv2⟩, hb2⟩)
  go_wp2_with (go_at_call 63; (with_reducible refine (dMinus v2 b 4 _ hv2).mono ?_); rintro e w5 ⟨⟨v5, rfl, hv5⟩, hb5⟩; have hv1' := (hv1.below hb2).below hb5)
  go_wp2_with (go_at_call 61; (with_reducible refine (dPlus v1 v5 a (-b) 4 4 _ hv1' hv5 (by omega) (by omega)).mono ?_); rintro e w3 ⟨⟨v3, rfl, hv3⟩, hb3⟩)
  go_wp2_with (go_at_call 60; (with_reducible refine (HT.out v3 _ _ hv3).mono ?_); rintro e w4 ⟨rfl, hb4⟩)
  go_ret2
  exact ⟨rfl, below_tr (below_tr (below_tr (below_tr hb1 hb2) hb5) hb3) hb4⟩
end Go.Proofs.Ytopikpjagjnbhaa
