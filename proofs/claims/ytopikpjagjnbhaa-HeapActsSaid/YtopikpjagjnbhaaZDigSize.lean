/- wherryref01: size. -/
import Derived.Test.YtopikpjagjnbhaaZDigPlain
import Derived.Test.YtopikpjagjnbhaaChg
import Derived.Laws.Bits64b
import Derived.Laws.BitsAllLaws
namespace Go.Proofs.Ytopikpjagjnbhaa
open Go.RowKit
theorem u32s_len {w : World} {A : Option Addr} {n c : Nat} {k : IntKind} {bs : List Int} (h : Rds w 1 A n c (nums k bs)) : bs.length = n := by
  have := h.len; rw [nums_length] at this; omega
set_option maxHeartbeats 2000000 in
theorem dsize (A : Option Addr) (n c : Nat) (a : List Int) (B : Option Addr) (m d : Nat) (b : List Int) (w : World) (hr : Rds w 1 A n c (nums .u32 a)) (hr2 : Rds w 1 B m d (nums .u32 b))
    (ha : Dig a) (hb : Dig b) (ta : Trimmed a) (tb : Trimmed b) :
    Calls Try.prog 77 #[.slice A n c, .slice B m d] w fun e w' => e = .returned (.int .i64 (cmpV (valD a) (valD b))) ∧ Below w.heap.size w w' := by
  have HN := Lib.hid (u32s_len hr)
  have HM := Lib.hid (u32s_len hr2)
  have hmax : n ≤ 9223372036854775807 := by have := hr.le; have := hr.max; unfold maxLen at this; omega
  have hmax2 : m ≤ 9223372036854775807 := by have := hr2.le; have := hr2.max; unfold maxLen at this; omega
  have HLT : Hid (∀ x y : Int, x < y → cmpV x y = -1) := fun x y h => by unfold cmpV; rw [if_pos h]
  have HGT : Hid (∀ x y : Int, y < x → cmpV x y = 1) := fun x y h => by unfold cmpV; rw [if_neg (by omega), if_pos h]
  have HDA := Lib.hid ha
  have HDB := Lib.hid hb
  rcases Nat.lt_trichotomy n m with h | h | h
  · have hv := HLT.out _ _ (valD_short ha hb tb (by rw [HN.out, HM.out]; exact h))
    rw [hv]
    have h1 : (n : Int) < m := by omega
    have h2 : ((n : Int) != m) = true := by simp; omega
    clear hv h
    go_enter Try.func77, Try.ntmps77
    go_wp2
    go_ret
    exact ⟨rfl, Below.refl _ _⟩
  · subst h
    have hdn : ((n : Int) != (n : Int)) = false := by simp
    go_enter Try.func77, Try.ntmps77
    go_wp2
    go_loopw [5] (fun i wr => ∃ z : Int, -1 ≤ z ∧ z < n ∧ i = .int .i64 z ∧ Below w.heap.size w wr ∧ Hid (a.drop (z + 1).toNat = b.drop (z + 1).toNat)) (fun i _ => (intOf i + 1).toNat)
    case atStart => exact ⟨(n : Int) - 1, by omega, by omega, rfl, Below.refl _ _, by show _ = _; rw [show ((n : Int) - 1 + 1).toNat = n by omega, List.drop_of_length_le (by rw [HN.out]; exact Nat.le_refl _), List.drop_of_length_le (by rw [HM.out]; exact Nat.le_refl _)]⟩
    case round =>
      obtain ⟨z, hz0, hz1, rfl, hbr, HJ⟩ := hrel
      by_cases hzz : 0 ≤ z
      · obtain ⟨k, rfl⟩ : ∃ k : Nat, z = k := ⟨z.toNat, by omega⟩
        have hlt : k < n := by omega
        have hkx : k < a.length := by rw [HN.out]; exact hlt
        have hky : k < b.length := by rw [HM.out]; exact hlt
        obtain ⟨ad, rfl⟩ := hr.some_ (by omega)
        obtain ⟨bd, rfl⟩ := hr2.some_ (by omega)
        have hc1 := (hr.below hbr).cell ad rfl k _ (nums_get .u32 a k hkx)
        have hc2 := (hr2.below hbr).cell bd rfl k _ (nums_get .u32 b k hky)
        have he := HJ.out
        rw [show ((k : Int) + 1).toNat = k + 1 by omega] at he
        have hx := HDA.out _ (List.getElem_mem hkx)
        have hy := HDB.out _ (List.getElem_mem hky)
        have HV1 : Hid (a[k] < b[k] → cmpV (valD a) (valD b) = -1) := fun h => HLT.out _ _ (valD_lt HDA.out HDB.out hkx hky he h)
        have HV2 : Hid (b[k] < a[k] → cmpV (valD a) (valD b) = 1) := fun h => HGT.out _ _ (valD_lt HDB.out HDA.out hky hkx he.symm h)
        have HE : Hid (a[k] = b[k] → a.drop k = b.drop k) := fun h => by rw [← List.getElem_cons_drop (h := hkx), ← List.getElem_cons_drop (h := hky), h, he]
        clear he
        obtain ⟨x, hxx⟩ : ∃ x, x = a[k] := ⟨_, rfl⟩
        obtain ⟨y, hyy⟩ : ∃ y, y = b[k] := ⟨_, rfl⟩
        rw [← hxx] at hc1 hx HV1 HV2 HE
        rw [← hyy] at hc2 hy HV1 HV2 HE
        clear hxx hyy
        obtain ⟨x1, x2⟩ := hx
        obtain ⟨y1, y2⟩ := hy
        rcases Int.lt_trichotomy x y with h | h | h
        · have hv := HV1.out h
          have HVv := Lib.hid hv
          have hne : (x != y) = true := by simp; omega
          clear hv HV1 HV2 HE
          go_wp2
          go_quiet (fail)
          go_wp2
          go_quiet (fail)
          go_wp2
          go_ret
          exact ⟨ret_int HVv.out.symm, below_dr (below_dr hbr _) _⟩
        · subst h
          have hne : (x != x) = false := by simp
          have HE2 : Hid (a.drop ((k : Int) - 1 + 1).toNat = b.drop ((k : Int) - 1 + 1).toNat) := by
            show _ = _
            rw [show ((k : Int) - 1 + 1).toNat = k by omega]
            exact HE.out rfl
          clear HV1 HV2 HE
          go_wp2
          go_quiet (fail)
          go_wp2
          go_roundw
          case rel => exact ⟨(k : Int) - 1, by omega, by omega, rfl, below_dr hbr _, HE2⟩
          case measure => simp [intOf]
        · have hv := HV2.out h
          have HVv := Lib.hid hv
          have hne : (x != y) = true := by simp; omega
          have hnl : ¬ x < y := by omega
          clear hv HV1 HV2 HE
          go_wp2
          go_quiet (fail)
          go_wp2
          go_quiet (fail)
          go_wp2
          go_ret
          exact ⟨ret_int HVv.out.symm, below_dr (below_dr hbr _) _⟩
      · have he := HJ.out
        rw [show (z + 1).toNat = 0 by omega, List.drop_zero, List.drop_zero] at he
        have hv : cmpV (valD a) (valD b) = 0 := by rw [he]; unfold cmpV; simp
        have HVv := Lib.hid hv
        clear hv he
        go_wp2
        go_ret
        exact ⟨ret_int HVv.out.symm, hbr⟩
  · have hv := HGT.out _ _ (valD_short hb ha ta (by rw [HN.out, HM.out]; exact h))
    rw [hv]
    have h1 : ¬ (n : Int) < m := by omega
    have h2 : ((n : Int) != m) = true := by simp; omega
    clear hv h
    go_enter Try.func77, Try.ntmps77
    go_wp2
    go_ret
    exact ⟨rfl, Below.refl _ _⟩
end Go.Proofs.Ytopikpjagjnbhaa

/- wherryref01: Of. -/
namespace Go.Proofs.Ytopikpjagjnbhaa
open Go.RowKit
/-- A wide number, as a value: its sign, and a slice of digits. -/
def Wd (w : World) (v : Value) (z : Int) (N : Nat) : Prop :=
  ∃ A n c ds, v = .agg #[.bool (decide (z < 0)), .slice A n c] ∧ Rds w 1 A n c (nums .u32 ds) ∧ Dig ds ∧ Trimmed ds ∧ valD ds = z.natAbs ∧ n ≤ N
theorem Wd.below {w w1 : World} {v : Value} {z : Int} {N : Nat} (h : Wd w v z N) (hb : Below w.heap.size w w1) : Wd w1 v z N := by
  obtain ⟨A, n, c, ds, e, hr, h1⟩ := h
  exact ⟨A, n, c, ds, e, hr.below hb, h1⟩
theorem info_u32 : (Try.prog.info? 74).map (fun i => (i.zero, i.size, i.bytes)) = some (some (.int .u32 0), 1, 4) := by kernel_rfl
theorem and16 (y : Int) (h0 : 0 ≤ y) (h1 : y < 18446744073709551616) : bits BinOp.and IntKind.u64 y 65535 = y % 65536 := by
  obtain ⟨k, rfl⟩ : ∃ k : Nat, y = k := ⟨y.toNat, by omega⟩
  have e := bits_and_u64_nat k 65535 (by omega) (by decide)
  have e2 : k &&& 65535 = k % 65536 := Nat.and_two_pow_sub_one_eq_mod k 16
  rw [e2] at e
  rw [show (65535 : Int) = ((65535 : Nat) : Int) from rfl, e]
  omega
theorem below_set {B : Nat} {w W : World} (h : Below B w W) (b o : Nat) (v : Value) (hb : B ≤ b) : Below B w (W.setCell ⟨b, o, none⟩ v) :=
  ⟨h.os, h.tape, h.output, by simpa using h.size, fun k hk => (heap_setCell_other W ⟨b, o, none⟩ k v (fun e => by have e2 : k = b := e; omega)).trans (h.block k hk)⟩
theorem ret_wide {fn : Func} {p : Tmp} (h : fn.results = #[.cell p 86]) {tmps : Array Value} {w : World} {b0 : Nat} {s1 s2 : Value} (hg : w.heap[b0]? = some (.cells #[s1, s2] 86 (0, 0))) (v1 v2 : Value) (hp : tmps.getD p undef = .pointer (some ⟨b0, 0, none⟩)) :
    (results fn tmps).run Try.prog ((w.setCell ⟨b0, 0, none⟩ v1).setCell ⟨b0, 1, none⟩ v2) = .ok (.agg #[v1, v2]) ((w.setCell ⟨b0, 0, none⟩ v1).setCell ⟨b0, 1, none⟩ v2) := by
  have h1 := heap_setCell_same w b0 0 #[s1, s2] 86 v1 hg
  have h2 := heap_setCell_same (w.setCell ⟨b0, 0, none⟩ v1) b0 1 _ 86 v2 h1
  exact results_cell_row h tmps _ b0 _ #[v1, v2] (0, 0) _ hp h2 Try.underlying86 rfl (by kernel_rfl)
theorem dig_push {ds : List Int} {u y : Int} {k : Nat} (hl : ds.length = k) (hy : 0 < y) (hv : u = valD ds + pw k * y) (hp : y < pw (4 - k)) (hk : k ≤ 4) (hd : Dig ds) :
    k < 4 ∧ u = valD (ds ++ [y % 65536]) + pw (k + 1) * (y / 65536) ∧ y / 65536 < pw (4 - (k + 1)) ∧ Dig (ds ++ [y % 65536]) ∧ (y / 65536 = 0 → Trimmed (ds ++ [y % 65536])) := by
  have hk4 : k < 4 := by
    rcases Nat.lt_or_ge k 4 with h | h
    · exact h
    · rw [show 4 - k = 0 by omega, pw_zero] at hp; omega
  refine ⟨hk4, ?_, ?_, ?_, ?_⟩
  · rw [valD_snoc, hl, pw_succ, Int.mul_assoc, Int.add_assoc, ← Int.mul_add, show y % 65536 + 65536 * (y / 65536) = y by omega]
    exact hv
  · rw [show 4 - k = (4 - (k + 1)) + 1 by omega, pw_succ] at hp
    omega
  · refine dig_append.2 ⟨hd, ?_⟩
    intro d hd'
    simp at hd'
    omega
  · intro h
    unfold Trimmed
    rw [List.getLast?_concat]
    intro e
    have := Option.some.inj e
    omega
set_option maxRecDepth 100000 in
set_option maxHeartbeats 2000000 in
theorem dOf (a : Int) (w : World) (ha : I64 a) :
    Calls Try.prog 62 #[.int .i64 a] w fun e w' => (∃ v, e = .returned v ∧ Wd w' v a 4) ∧ Below w.heap.size w w' := by
  unfold I64 at ha
  obtain ⟨h1, h2⟩ := ha
  have hw : a < 0 → IntKind.u64.wrap (-IntKind.u64.wrap a) = -a := by
    intro h
    unfold IntKind.wrap
    simp [IntKind.bits, IntKind.signed]
    omega
  have HW := Lib.hid hw
  clear hw
  obtain ⟨u, hu⟩ : ∃ u : Int, u = a.natAbs := ⟨_, rfl⟩
  have hu0 : 0 ≤ u := by omega
  have hu1 : u ≤ 9223372036854775808 := by omega
  have HU := Lib.hid hu
  have HP0 : Hid (u < pw (4 - 0)) := by show _ < _; rw [show pw (4 - 0) = 18446744073709551616 from rfl]; omega
  by_cases h0 : a < 0
  all_goals
    go_enter Try.func62, Try.ntmps62
    go_wp2
    first
    | rw [HW.out h0, show -a = u by rw [HU.out]; omega]
    | rw [show Value.int .u64 a = Value.int .u64 u by rw [HU.out]; congr 1; omega]
    clear hu
    obtain ⟨W0, hW0⟩ : ∃ W0, W0 = w.alloc (.cells #[.bool false, .slice none 0 0] 86) := ⟨_, rfl⟩
    have c0 : W0.cell? ⟨w.heap.size, 0, none⟩ = some (.bool false) := by rw [hW0]; go_simp
    have c1 : W0.cell? ⟨w.heap.size, 1, none⟩ = some (.slice none 0 0) := by rw [hW0]; go_simp
    have f0 : W0.frozen? ⟨w.heap.size, 0, none⟩ = false := by rw [hW0]; go_simp
    have f1 : W0.frozen? ⟨w.heap.size, 1, none⟩ = false := by rw [hW0]; go_simp
    have hg0 : W0.heap[w.heap.size]? = some (.cells #[.bool false, .slice none 0 0] 86 (0, 0)) := by rw [hW0]; exact heap_alloc_new w _
    have hB0 : Below w.heap.size w W0 := by rw [hW0]; exact below_al (Below.refl _ _) _
    have hlt0 : w.heap.size < W0.heap.size := by rw [hW0]; simp
    rw [← hW0]
    obtain ⟨b0, hb0⟩ : ∃ b0, b0 = w.heap.size := ⟨_, rfl⟩
    rw [show Value.pointer (some ⟨w.heap.size, 0, none⟩) = Value.pointer (some ⟨b0, 0, none⟩) by rw [hb0]]
    rw [← hb0] at c0 c1 f0 f1 hlt0 hg0
    have HB0 := Lib.hid hb0
    clear hb0 hW0
    go_loopw [3, 4] (fun x v wr => ∃ k : Nat, k ≤ 4 ∧ ∃ ds : List Int, Hid (ds.length = k) ∧ ∃ y : Int, x = .int .u64 y ∧ 0 ≤ y ∧ Hid (u = valD ds + pw k * y) ∧ Hid (y < pw (4 - k)) ∧ Hid (Dig ds) ∧ Hid (y = 0 → Trimmed ds) ∧ y ≤ 9223372036854775808 ∧ wr.ownsRow W0.heap.size 74 1 v k (nums .u32 ds) ∧ Below W0.heap.size W0 wr) (fun x _ _ => (intOf x).toNat)
    case atStart => exact ⟨0, by omega, [], rfl, u, rfl, hu0, by show _ = _; simp [valD, pw_zero], HP0.out, (by intro d hd; cases hd), fun _ => trimmed_nil, hu1, World.ownsRow_nil _ _ _ _, Below.refl _ _⟩
    case round =>
      obtain ⟨k, hk, ds, HDL, y, rfl, hy0, HV, HP, HD, HT, hy1, ho, hb⟩ := hrel
      by_cases hy : 0 < y
      · obtain ⟨p0, p1, p2, p3, p4⟩ := dig_push HDL.out hy HV.out HP.out hk HD.out
        have P1 := Lib.hid p1
        have P2 := Lib.hid p2
        have P3 := Lib.hid p3
        have P4 := Lib.hid p4
        have ha16 : bits BinOp.and IntKind.u64 y 65535 % 4294967296 = y % 65536 := by rw [and16 y hy0 (by omega)]; omega
        clear p1 p2 p3 p4 HV HP HD HT
        go_wp2_with (at_builtin; rw [ha16]; (refine ap1 (w0 := W0) W0.heap.size rfl _ _ 84 74 _ 4 (by rfl) Try.underlying84 info_u32 rfl (by decide) _ _ _ _ (by rfl) (by rfl) rfl ho hb hb.size (by omega) ?_); intro v1 w1 ho1 hb1 _ _)
        go_roundw
        case rel => exact ⟨k + 1, by omega, ds ++ [y % 65536], by show _ = _; rw [List.length_append, HDL.out]; rfl, y / 65536, rfl, by omega, P1.out, P2.out, P3.out, P4.out, by omega, by rw [nums_append]; exact ho1, hb1⟩
        case measure => simp only [intOf]; omega
      · obtain rfl : y = 0 := by omega
        have hc0 := cell_below hb c0
        have hc1 := cell_below hb c1
        have hf0 := (World.frozen?_of_block (a := ⟨b0, 0, none⟩) (hb.block b0 hlt0)).trans f0
        have hf1 := (World.frozen?_of_block (a := ⟨b0, 1, none⟩) (hb.block b0 hlt0)).trans f1
        have hval : Hid (valD ds = a.natAbs) := by
          show _ = _
          have := HV.out
          rw [Int.mul_zero, Int.add_zero] at this
          rw [← this, HU.out]
        have htr := HT.out rfl
        have HTR := Lib.hid htr
        obtain ⟨A, m, c, rfl, hm, _⟩ := own_open ho
        have hm' := hm.out
        subst hm'
        have ho2 := fun u1 u2 => own_rds' (ownsRow_setCell_below (ownsRow_setCell_below ho (a := ⟨b0, 0, none⟩) hlt0 u1) (a := ⟨b0, 1, none⟩) hlt0 u2)
        have hbe := fun u1 u2 => below_set (below_set (below_then hB0 hB0.size hb) b0 0 u1 (by rw [HB0.out]; exact Nat.le_refl _)) b0 1 u2 (by rw [HB0.out]; exact Nat.le_refl _)
        have hgw := (hb.block b0 hlt0).trans hg0
        clear htr HV HP HT
        go_wp2
        refine bodyPost_ret (ret_wide rfl hgw _ _ (by rfl)) rfl ?_
        exact ⟨⟨_, rfl, A, m, c, ds, by simp [h0], (ho2 _ _).2, HD.out, HTR.out, hval.out, by omega⟩, hbe _ _⟩
end Go.Proofs.Ytopikpjagjnbhaa

/- wherryref01: trim. -/
namespace Go.Proofs.Ytopikpjagjnbhaa
open Go.RowKit
theorem trim_sign {ds : List Int} {k : Nat} (hd : Dig ds) (ht : Trimmed (ds.take k)) (hv : valD (ds.take k) = valD ds) (hk : k ≤ ds.length) : decide ((0 : Int) < (k : Int)) = decide (0 < valD ds) := by
  rcases Nat.eq_zero_or_pos k with h | h
  · subst h
    rw [List.take_zero] at hv
    simp [← hv, valD]
  · have h1 := valD_ge (dig_take hd k) ht (by intro e; have := congrArg List.length e; rw [List.length_take] at this; simp only [List.length_nil] at this; omega)
    have h2 := pw_pos ((ds.take k).length - 1)
    rw [hv] at h1
    simp; omega
/-- The number that a sign and digits tell. -/
def tellD (neg : Bool) (ds : List Int) : Int := if neg then - valD ds else valD ds
theorem sgn_false {ds : List Int} (h : Dig ds) : decide (tellD false ds < 0) = false := by
  have := (valD_bd h).1
  simp [tellD]; omega
theorem sgn_true (ds : List Int) : decide (tellD true ds < 0) = decide (0 < valD ds) := by
  simp only [tellD, if_true]
  congr 1
  exact propext ⟨fun h => by omega, fun h => by omega⟩
theorem tell_abs {ds : List Int} (neg : Bool) (h : Dig ds) : ((tellD neg ds).natAbs : Int) = valD ds := by
  have := (valD_bd h).1
  cases neg <;> simp [tellD] <;> omega
theorem rds_zero {w w1 : World} {sz n c : Nat} {A : Option Addr} {cs : List Value} (h : Rds w sz A n c cs) : Rds w1 sz A 0 c [] := ⟨by simp, Nat.zero_le _, h.max, h.nil, fun ad e j u hj => by simp at hj⟩
set_option maxRecDepth 100000 in
set_option maxHeartbeats 4000000 in
theorem dtrim (neg : Bool) (A : Option Addr) (n c : Nat) (ds : List Int) (w : World) (hr : Rds w 1 A n c (nums .u32 ds)) (hd : Dig ds) :
    Calls Try.prog 75 #[.agg #[.bool neg, .slice A n c]] w fun e w' => (∃ v, e = .returned v ∧ Wd w' v (tellD neg ds) n) ∧ Below w.heap.size w w' := by
  have HN := Lib.hid (u32s_len hr)
  have HD := Lib.hid hd
  have hmax : n ≤ 9223372036854775807 := by have := hr.le; have := hr.max; unfold maxLen at this; omega
  have hnc := hr.le
  clear hd
  go_enter Try.func75, Try.ntmps75
  go_wp2
  obtain ⟨W2, hW2⟩ : ∃ W2, W2 = (w.alloc (.cells #[.bool neg, .slice A n c] 86)).alloc (.cells #[.bool false, .slice none 0 0] 86) := ⟨_, rfl⟩
  have p0 : W2.cell? ⟨w.heap.size, 0, none⟩ = some (.bool neg) := by rw [hW2]; go_simp
  have p1 : W2.cell? ⟨w.heap.size, 1, none⟩ = some (.slice A n c) := by rw [hW2]; go_simp
  have q0 : Box W2 (w.heap.size + 1) 0 (.bool false) := by rw [hW2]; constructor <;> go_simp
  have q1 : Box W2 (w.heap.size + 1) 1 (.slice none 0 0) := by rw [hW2]; constructor <;> go_simp
  have hg0 : W2.heap[w.heap.size + 1]? = some (.cells #[.bool false, .slice none 0 0] 86 (0, 0)) := by rw [hW2]; exact (by simpa using heap_alloc_new (w.alloc (.cells #[.bool neg, .slice A n c] 86)) (.cells #[.bool false, .slice none 0 0] 86))
  have hB : Below w.heap.size w W2 := by rw [hW2]; exact below_al (below_al (Below.refl _ _) _) _
  rw [← hW2]
  obtain ⟨b1, hb1⟩ : ∃ b, b = w.heap.size := ⟨_, rfl⟩
  obtain ⟨b0, hb0⟩ : ∃ b, b = w.heap.size + 1 := ⟨_, rfl⟩
  rw [show Value.pointer (some ⟨w.heap.size, 0, none⟩) = Value.pointer (some ⟨b1, 0, none⟩) by rw [hb1], show Value.pointer (some ⟨w.heap.size + 1, 0, none⟩) = Value.pointer (some ⟨b0, 0, none⟩) by rw [hb0]]
  rw [← hb1] at p0 p1
  rw [← hb0] at q0 q1 hg0
  have hr2 := hr.below hB
  have hbe : Hid (w.heap.size ≤ b0) := by show _ ≤ _; omega
  have hne : ¬ b1 = b0 := by omega
  have hab : ∀ ad, A = some ad → 0 < n → ¬ ad.block = b0 := by
    intro ad e hn
    have hlt : ad.block < w.heap.size := by
      have h1 := hr.cell ad e 0 _ (List.getElem?_eq_getElem (show 0 < (nums .u32 ds).length by rw [hr.len]; omega))
      exact World.block_lt_of_cell? w _ h1
    omega
  have HAB := Lib.hid hab
  clear hab hb1 hb0 hW2 hr
  go_wp2
  go_loopw [3] (fun x wr => ∃ k : Nat, k ≤ n ∧ x = .int .i64 k ∧ Hid (valD (ds.take k) = valD ds) ∧ wr = W2) (fun x _ => (intOf x).toNat)
  case atStart => exact ⟨n, Nat.le_refl _, rfl, by show _ = _; rw [List.take_of_length_le (by rw [HN.out]; exact Nat.le_refl _)], rfl⟩
  case round =>
    obtain ⟨k, hk, rfl, HV, hwr⟩ := hrel
    subst hwr
    rcases Nat.eq_zero_or_pos k with h0 | h0
    · subst h0
      have HTR : Hid (Trimmed (ds.take 0)) := by show Trimmed _; rw [List.take_zero]; exact trimmed_nil
      have HTV := Lib.hid (trim_sign HD.out HTR.out HV.out (by rw [HN.out]; exact hk))
      cases neg with
      | false =>
        go_wp2
        obtain ⟨G, hG⟩ : ∃ G : Option Value → World → Prop, ∀ a W, G a W = (Chg (fun q => q = b0) wr W ∧ (a = none → Box W b0 0 (.bool false) ∧ Box W b0 1 (.slice none 0 0) ∧ W.heap[b0]? = some (.cells #[.bool false, .slice none 0 0] 86 (0, 0))) ∧ (a.isSome = true → W.heap[b0]? = some (.cells #[.bool false, .slice A 0 c] 86 (0, 0)))) := ⟨_, fun _ _ => rfl⟩
        obtain ⟨S_, hS_⟩ : ∃ S_ : World → World → Prop, S_ = (Chg (fun q => q = b0)) := ⟨_, rfl⟩
        have hR_ : ∀ W, S_ W W := by intro W; rw [hS_]; exact Chg.refl _ _
        obtain ⟨T, hT⟩ : ∃ T : Nat → FactS S_, ∀ t_, T t_ = ([FactS.eq (.pointer (some ⟨b1, 0, none⟩)), FactS.eq (.bool false), FactS.eq (.bool false), FactS.eq (undef), FactS.eq (undef), FactS.eq (.bool false), FactS.eq (.pointer (some ⟨b1, 1, none⟩)), FactS.eq (.slice A n c), FactS.eq (.int .i64 0), FactS.eq (.slice A 0 c), FactS.eq (.agg #[.bool false, .slice A 0 c]), FactS.eq (undef)] : List (FactS S_)).getD t_ FactS.any := ⟨_, fun _ => rfl⟩
        have hP_ : ∀ i_ v_ (y_ : Nat → Option Value) W_, ([11].contains i_) = false → G (y_ 11) W_ → G (updY y_ i_ v_ 11) W_ := by
          intro i_ v_ y_ W_ hi_ h_
          simp only [List.contains_cons, List.contains_nil, Bool.or_false, beq_eq_false_iff_ne, ne_eq] at hi_
          rw [updY_ne y_ i_ v_ hi_]
          exact h_
        refine region_tabJ [(0, 20), (1, 21), (2, 22), (3, 23), (4, 24), (5, 25), (6, 26), (7, 27), (8, 28), (9, 29), (10, 30)] S_ T (fun y_ W_ => G (y_ 11) W_) (by kernel_rfl) (by kernel_rfl) (by kernel_rfl) (by kernel_rfl) (by kernel_rfl) ?_ ?_ ?_
        · skip
          show G none _
          rw [hG]
          exact ⟨(Chg.refl _ _).drewN 1, fun _ => ⟨q0.drew 1, q1.drew 1, hg0⟩, fun h => by cases h⟩
        · skip
          refine stepsAll_cons (k := 0) ?_ ?_
          · intro fa fx fW fy hF hN hJ hE K fK
            have hJ : G (fy 11) fW := hJ
            have ev1 : fa.tmps[1]?.getD undef = .pointer (some ⟨b1, 0, none⟩) := hF.eo 1 (by kernel_rfl)
            refine wpOp_val rfl (wanted_none rfl) ?_ (fK (.pointer (some ⟨b1, 0, none⟩)) fW (hR_ fW) (by rw [hT]; exact rfl) (hP_ 0 _ fy fW rfl hJ))
            clear fK hE hF hJ hN
            go_simp
          refine stepsAll_cons (k := 1) ?_ ?_
          · intro fa fx fW fy hF hN hJ hE K fK
            have hJ : G (fy 11) fW := hJ
            have q0 : fx 0 = .pointer (some ⟨b1, 0, none⟩) := by have q := (hE ⟨0, .data⟩ (by simp) rfl).2; rw [hT] at q; exact q
            have ev20 : fa.tmps[20]?.getD undef = .pointer (some ⟨b1, 0, none⟩) := (hF.ev 0 20 (by kernel_rfl)).trans q0
            have hJ1 := hJ
            rw [hG] at hJ1
            have z0 := hJ1.1.cell p0 hne
            clear hJ1
            refine wpOp_val rfl (wanted_none rfl) ?_ (fK (.bool false) fW (hR_ fW) (by rw [hT]; exact rfl) (hP_ 1 _ fy fW rfl hJ))
            clear fK hE hF hJ hN
            go_simp
          refine stepsAll_cons (k := 2) ?_ ?_
          · intro fa fx fW fy hF hN hJ hE K fK
            have hJ : G (fy 11) fW := hJ
            have q1 : fx 1 = .bool false := by have q := (hE ⟨1, .data⟩ (by simp) rfl).2; rw [hT] at q; exact q
            have ev21 : fa.tmps[21]?.getD undef = .bool false := (hF.ev 1 21 (by kernel_rfl)).trans q1
            refine wpOp_val rfl (wanted_none rfl) ?_ (fK (.bool false) fW (hR_ fW) (by rw [hT]; exact rfl) (hP_ 2 _ fy fW rfl hJ))
            clear fK hE hF hJ hN
            go_simp
          refine stepsAll_cons (k := 3) ?_ ?_
          · intro fa fx fW fy hF hN hJ hE K fK
            have hJ : G (fy 11) fW := hJ
            have q2 : fx 2 = .bool false := by have q := (hE ⟨2, .guard⟩ (by simp) rfl).2; rw [hT] at q; exact q
            have ev3 : fa.tmps[3]?.getD undef = .int .i64 0 := hF.eo 3 (by kernel_rfl)
            exact wpOp_skip rfl (by simp [Region.wanted, hF.yes 2 22 (by kernel_rfl) false q2]) (fK undef fW (hR_ fW) (by rw [hT]; exact rfl) (hP_ 3 _ fy fW rfl hJ))
          refine stepsAll_cons (k := 4) ?_ ?_
          · intro fa fx fW fy hF hN hJ hE K fK
            have hJ : G (fy 11) fW := hJ
            have q2 : fx 2 = .bool false := by have q := (hE ⟨2, .guard⟩ (by simp) rfl).2; rw [hT] at q; exact q
            have q3 : fx 3 = undef := by have q := (hE ⟨3, .data⟩ (by simp) rfl).2; rw [hT] at q; exact q
            have ev23 : fa.tmps[23]?.getD undef = undef := (hF.ev 3 23 (by kernel_rfl)).trans q3
            exact wpOp_skip rfl (by simp [Region.wanted, hF.yes 2 22 (by kernel_rfl) false q2]) (fK undef fW (hR_ fW) (by rw [hT]; exact rfl) (hP_ 4 _ fy fW rfl hJ))
          refine stepsAll_cons (k := 5) ?_ ?_
          · intro fa fx fW fy hF hN hJ hE K fK
            have hJ : G (fy 11) fW := hJ
            have q2 : fx 2 = .bool false := by have q := (hE ⟨2, .data⟩ (by simp) rfl).2; rw [hT] at q; exact q
            have q4 : fx 4 = undef := by have q := (hE ⟨4, .data⟩ (by simp) rfl).2; rw [hT] at q; exact q
            have ev22 : fa.tmps[22]?.getD undef = .bool false := (hF.ev 2 22 (by kernel_rfl)).trans q2
            have ev24 : fa.tmps[24]?.getD undef = undef := (hF.ev 4 24 (by kernel_rfl)).trans q4
            refine wpOp_val rfl (wanted_none rfl) ?_ (fK (.bool false) fW (hR_ fW) (by rw [hT]; exact rfl) (hP_ 5 _ fy fW rfl hJ))
            clear fK hE hF hJ hN
            go_simp
          refine stepsAll_cons (k := 6) ?_ ?_
          · intro fa fx fW fy hF hN hJ hE K fK
            have hJ : G (fy 11) fW := hJ
            have ev1 : fa.tmps[1]?.getD undef = .pointer (some ⟨b1, 0, none⟩) := hF.eo 1 (by kernel_rfl)
            refine wpOp_val rfl (wanted_none rfl) ?_ (fK (.pointer (some ⟨b1, 1, none⟩)) fW (hR_ fW) (by rw [hT]; exact rfl) (hP_ 6 _ fy fW rfl hJ))
            clear fK hE hF hJ hN
            go_simp
          refine stepsAll_cons (k := 7) ?_ ?_
          · intro fa fx fW fy hF hN hJ hE K fK
            have hJ : G (fy 11) fW := hJ
            have q6 : fx 6 = .pointer (some ⟨b1, 1, none⟩) := by have q := (hE ⟨6, .data⟩ (by simp) rfl).2; rw [hT] at q; exact q
            have ev26 : fa.tmps[26]?.getD undef = .pointer (some ⟨b1, 1, none⟩) := (hF.ev 6 26 (by kernel_rfl)).trans q6
            have hJ1 := hJ
            rw [hG] at hJ1
            have z1 := hJ1.1.cell p1 hne
            clear hJ1
            refine wpOp_val rfl (wanted_none rfl) ?_ (fK (.slice A n c) fW (hR_ fW) (by rw [hT]; exact rfl) (hP_ 7 _ fy fW rfl hJ))
            clear fK hE hF hJ hN
            go_simp
          refine stepsAll_cons (k := 8) ?_ ?_
          · intro fa fx fW fy hF hN hJ hE K fK
            have hJ : G (fy 11) fW := hJ
            have ev3 : fa.tmps[3]?.getD undef = .int .i64 0 := hF.eo 3 (by kernel_rfl)
            refine wpOp_val rfl (wanted_none rfl) ?_ (fK (.int .i64 0) fW (hR_ fW) (by rw [hT]; exact rfl) (hP_ 8 _ fy fW rfl hJ))
            clear fK hE hF hJ hN
            go_simp
          refine stepsAll_cons (k := 9) ?_ ?_
          · intro fa fx fW fy hF hN hJ hE K fK
            have hJ : G (fy 11) fW := hJ
            have q7 : fx 7 = .slice A n c := by have q := (hE ⟨7, .data⟩ (by simp) rfl).2; rw [hT] at q; exact q
            have q8 : fx 8 = .int .i64 0 := by have q := (hE ⟨8, .data⟩ (by simp) rfl).2; rw [hT] at q; exact q
            have ev27 : fa.tmps[27]?.getD undef = .slice A n c := (hF.ev 7 27 (by kernel_rfl)).trans q7
            have ev28 : fa.tmps[28]?.getD undef = .int .i64 0 := (hF.ev 8 28 (by kernel_rfl)).trans q8
            refine wpOp_val rfl (wanted_none rfl) ?_ (fK (.slice A 0 c) fW (hR_ fW) (by rw [hT]; exact rfl) (hP_ 9 _ fy fW rfl hJ))
            clear fK hE hF hJ hN
            go_simp
          refine stepsAll_cons (k := 10) ?_ ?_
          · intro fa fx fW fy hF hN hJ hE K fK
            have hJ : G (fy 11) fW := hJ
            have q5 : fx 5 = .bool false := by have q := (hE ⟨5, .data⟩ (by simp) rfl).2; rw [hT] at q; exact q
            have q9 : fx 9 = .slice A 0 c := by have q := (hE ⟨9, .data⟩ (by simp) rfl).2; rw [hT] at q; exact q
            have ev25 : fa.tmps[25]?.getD undef = .bool false := (hF.ev 5 25 (by kernel_rfl)).trans q5
            have ev29 : fa.tmps[29]?.getD undef = .slice A 0 c := (hF.ev 9 29 (by kernel_rfl)).trans q9
            refine wpOp_val rfl (wanted_none rfl) ?_ (fK (.agg #[.bool false, .slice A 0 c]) fW (hR_ fW) (by rw [hT]; exact rfl) (hP_ 10 _ fy fW rfl hJ))
            clear fK hE hF hJ hN
            go_simp
          refine stepsAll_cons (k := 11) ?_ ?_
          · intro fa fx fW fy hF hN hJ hE K fK
            have hJ : G (fy 11) fW := hJ
            have q10 : fx 10 = .agg #[.bool false, .slice A 0 c] := by have q := (hE ⟨10, .data⟩ (by simp) rfl).2; rw [hT] at q; exact q
            have ev30 : fa.tmps[30]?.getD undef = .agg #[.bool false, .slice A 0 c] := (hF.ev 10 30 (by kernel_rfl)).trans q10
            have ev2 : fa.tmps[2]?.getD undef = .pointer (some ⟨b0, 0, none⟩) := hF.eo 2 (by kernel_rfl)
            rw [hG, hN] at hJ
            obtain ⟨j0, j1, j2⟩ := hJ
            obtain ⟨x0, x1, x2⟩ := j1 rfl
            have a0 := x0.cell
            have a1 := x1.cell
            have f0 := x0.free
            have f1 := x1.free
            have hch : Chg (fun q => q = b0) fW ((fW.setCell ⟨b0, 0, none⟩ (.bool false)).setCell ⟨b0, 1, none⟩ (.slice A 0 c)) := ((Chg.refl (fun q => q = b0) fW).setCell b0 0 _ rfl).setCell b0 1 _ rfl
            have hgg := heap_setCell_same _ b0 1 _ 86 (.slice A 0 c) (heap_setCell_same fW b0 0 _ 86 (.bool false) x2)
            refine wpOp_done rfl (wanted_none rfl) (W' := ((fW.setCell ⟨b0, 0, none⟩ (.bool false)).setCell ⟨b0, 1, none⟩ (.slice A 0 c))) (by clear fK hE hF hN hch hgg; go_simp) (fK undef _ (by rw [hS_]; exact hch) (by rw [hT]; exact rfl) ?_)
            show G (some undef) _
            rw [hG]
            exact ⟨j0.trans hch, (fun e => by cases e), fun _ => hgg⟩
          exact stepsAll_nil
        intro fa fx fW fy hF hJ0 hx
        have y11 : fy 11 = some (fx 11) := (hx 11 (by decide)).1
        have hJ : G (fy 11) fW := hJ0
        clear hJ0
        rw [y11] at hJ
        rw [hF.eq]
        clear hF hx hT T hP_ hR_ y11
        simp only [putAll, Act.put, List.setIfInBounds_toArray, List.set_cons_zero, List.set_cons_succ, ]
        rw [hG] at hJ
        obtain ⟨j0, j1, j2⟩ := hJ
        have hgf := j2 rfl
        go_wp2
        refine bodyPost_ret (results_cell_row rfl _ _ b0 _ #[.bool false, .slice A 0 c] (0, 0) _ (by rfl) hgf Try.underlying86 rfl (by kernel_rfl)) rfl ?_
        exact ⟨⟨_, rfl, A, 0, c, ds.take 0, by rw [sgn_false HD.out], by rw [List.take_zero]; exact rds_zero hr2, dig_take HD.out _, HTR.out, by rw [HV.out]; exact (tell_abs false HD.out).symm, hk⟩, j0.toBelow hB hB.size (fun q e => by have := hbe.out; omega)⟩
      | true =>
        go_wp2
        obtain ⟨G, hG⟩ : ∃ G : Option Value → World → Prop, ∀ a W, G a W = (Chg (fun q => q = b0) wr W ∧ (a = none → Box W b0 0 (.bool false) ∧ Box W b0 1 (.slice none 0 0) ∧ W.heap[b0]? = some (.cells #[.bool false, .slice none 0 0] 86 (0, 0))) ∧ (a.isSome = true → W.heap[b0]? = some (.cells #[.bool (decide ((0 : Int) < (0 : Int))), .slice A 0 c] 86 (0, 0)))) := ⟨_, fun _ _ => rfl⟩
        obtain ⟨S_, hS_⟩ : ∃ S_ : World → World → Prop, S_ = (Chg (fun q => q = b0)) := ⟨_, rfl⟩
        have hR_ : ∀ W, S_ W W := by intro W; rw [hS_]; exact Chg.refl _ _
        obtain ⟨T, hT⟩ : ∃ T : Nat → FactS S_, ∀ t_, T t_ = ([FactS.eq (.pointer (some ⟨b1, 0, none⟩)), FactS.eq (.bool true), FactS.eq (.bool true), FactS.eq (.int .i64 0), FactS.eq (.bool (decide ((0 : Int) < (0 : Int)))), FactS.eq (.bool (decide ((0 : Int) < (0 : Int)))), FactS.eq (.pointer (some ⟨b1, 1, none⟩)), FactS.eq (.slice A n c), FactS.eq (.int .i64 0), FactS.eq (.slice A 0 c), FactS.eq (.agg #[.bool (decide ((0 : Int) < (0 : Int))), .slice A 0 c]), FactS.eq (undef)] : List (FactS S_)).getD t_ FactS.any := ⟨_, fun _ => rfl⟩
        have hP_ : ∀ i_ v_ (y_ : Nat → Option Value) W_, ([11].contains i_) = false → G (y_ 11) W_ → G (updY y_ i_ v_ 11) W_ := by
          intro i_ v_ y_ W_ hi_ h_
          simp only [List.contains_cons, List.contains_nil, Bool.or_false, beq_eq_false_iff_ne, ne_eq] at hi_
          rw [updY_ne y_ i_ v_ hi_]
          exact h_
        refine region_tabJ [(0, 20), (1, 21), (2, 22), (3, 23), (4, 24), (5, 25), (6, 26), (7, 27), (8, 28), (9, 29), (10, 30)] S_ T (fun y_ W_ => G (y_ 11) W_) (by kernel_rfl) (by kernel_rfl) (by kernel_rfl) (by kernel_rfl) (by kernel_rfl) ?_ ?_ ?_
        · skip
          show G none _
          rw [hG]
          exact ⟨(Chg.refl _ _).drewN 1, fun _ => ⟨q0.drew 1, q1.drew 1, hg0⟩, fun h => by cases h⟩
        · skip
          refine stepsAll_cons (k := 0) ?_ ?_
          · intro fa fx fW fy hF hN hJ hE K fK
            have hJ : G (fy 11) fW := hJ
            have ev1 : fa.tmps[1]?.getD undef = .pointer (some ⟨b1, 0, none⟩) := hF.eo 1 (by kernel_rfl)
            refine wpOp_val rfl (wanted_none rfl) ?_ (fK (.pointer (some ⟨b1, 0, none⟩)) fW (hR_ fW) (by rw [hT]; exact rfl) (hP_ 0 _ fy fW rfl hJ))
            clear fK hE hF hJ hN
            go_simp
          refine stepsAll_cons (k := 1) ?_ ?_
          · intro fa fx fW fy hF hN hJ hE K fK
            have hJ : G (fy 11) fW := hJ
            have q0 : fx 0 = .pointer (some ⟨b1, 0, none⟩) := by have q := (hE ⟨0, .data⟩ (by simp) rfl).2; rw [hT] at q; exact q
            have ev20 : fa.tmps[20]?.getD undef = .pointer (some ⟨b1, 0, none⟩) := (hF.ev 0 20 (by kernel_rfl)).trans q0
            have hJ1 := hJ
            rw [hG] at hJ1
            have z0 := hJ1.1.cell p0 hne
            clear hJ1
            refine wpOp_val rfl (wanted_none rfl) ?_ (fK (.bool true) fW (hR_ fW) (by rw [hT]; exact rfl) (hP_ 1 _ fy fW rfl hJ))
            clear fK hE hF hJ hN
            go_simp
          refine stepsAll_cons (k := 2) ?_ ?_
          · intro fa fx fW fy hF hN hJ hE K fK
            have hJ : G (fy 11) fW := hJ
            have q1 : fx 1 = .bool true := by have q := (hE ⟨1, .data⟩ (by simp) rfl).2; rw [hT] at q; exact q
            have ev21 : fa.tmps[21]?.getD undef = .bool true := (hF.ev 1 21 (by kernel_rfl)).trans q1
            refine wpOp_val rfl (wanted_none rfl) ?_ (fK (.bool true) fW (hR_ fW) (by rw [hT]; exact rfl) (hP_ 2 _ fy fW rfl hJ))
            clear fK hE hF hJ hN
            go_simp
          refine stepsAll_cons (k := 3) ?_ ?_
          · intro fa fx fW fy hF hN hJ hE K fK
            have hJ : G (fy 11) fW := hJ
            have q2 : fx 2 = .bool true := by have q := (hE ⟨2, .guard⟩ (by simp) rfl).2; rw [hT] at q; exact q
            have ev3 : fa.tmps[3]?.getD undef = .int .i64 0 := hF.eo 3 (by kernel_rfl)
            refine wpOp_val rfl (wanted_yes rfl (hF.yes 2 22 (by kernel_rfl) true q2)) ?_ (fK (.int .i64 0) fW (hR_ fW) (by rw [hT]; exact rfl) (hP_ 3 _ fy fW rfl hJ))
            clear fK hE hF hJ hN
            go_simp
          refine stepsAll_cons (k := 4) ?_ ?_
          · intro fa fx fW fy hF hN hJ hE K fK
            have hJ : G (fy 11) fW := hJ
            have q2 : fx 2 = .bool true := by have q := (hE ⟨2, .guard⟩ (by simp) rfl).2; rw [hT] at q; exact q
            have q3 : fx 3 = .int .i64 0 := by have q := (hE ⟨3, .data⟩ (by simp) rfl).2; rw [hT] at q; exact q
            have ev23 : fa.tmps[23]?.getD undef = .int .i64 0 := (hF.ev 3 23 (by kernel_rfl)).trans q3
            refine wpOp_val rfl (wanted_yes rfl (hF.yes 2 22 (by kernel_rfl) true q2)) ?_ (fK (.bool (decide ((0 : Int) < (0 : Int)))) fW (hR_ fW) (by rw [hT]; exact rfl) (hP_ 4 _ fy fW rfl hJ))
            clear fK hE hF hJ hN
            go_simp
          refine stepsAll_cons (k := 5) ?_ ?_
          · intro fa fx fW fy hF hN hJ hE K fK
            have hJ : G (fy 11) fW := hJ
            have q2 : fx 2 = .bool true := by have q := (hE ⟨2, .data⟩ (by simp) rfl).2; rw [hT] at q; exact q
            have q4 : fx 4 = .bool (decide ((0 : Int) < (0 : Int))) := by have q := (hE ⟨4, .data⟩ (by simp) rfl).2; rw [hT] at q; exact q
            have ev22 : fa.tmps[22]?.getD undef = .bool true := (hF.ev 2 22 (by kernel_rfl)).trans q2
            have ev24 : fa.tmps[24]?.getD undef = .bool (decide ((0 : Int) < (0 : Int))) := (hF.ev 4 24 (by kernel_rfl)).trans q4
            refine wpOp_val rfl (wanted_none rfl) ?_ (fK (.bool (decide ((0 : Int) < (0 : Int)))) fW (hR_ fW) (by rw [hT]; exact rfl) (hP_ 5 _ fy fW rfl hJ))
            clear fK hE hF hJ hN
            go_simp
          refine stepsAll_cons (k := 6) ?_ ?_
          · intro fa fx fW fy hF hN hJ hE K fK
            have hJ : G (fy 11) fW := hJ
            have ev1 : fa.tmps[1]?.getD undef = .pointer (some ⟨b1, 0, none⟩) := hF.eo 1 (by kernel_rfl)
            refine wpOp_val rfl (wanted_none rfl) ?_ (fK (.pointer (some ⟨b1, 1, none⟩)) fW (hR_ fW) (by rw [hT]; exact rfl) (hP_ 6 _ fy fW rfl hJ))
            clear fK hE hF hJ hN
            go_simp
          refine stepsAll_cons (k := 7) ?_ ?_
          · intro fa fx fW fy hF hN hJ hE K fK
            have hJ : G (fy 11) fW := hJ
            have q6 : fx 6 = .pointer (some ⟨b1, 1, none⟩) := by have q := (hE ⟨6, .data⟩ (by simp) rfl).2; rw [hT] at q; exact q
            have ev26 : fa.tmps[26]?.getD undef = .pointer (some ⟨b1, 1, none⟩) := (hF.ev 6 26 (by kernel_rfl)).trans q6
            have hJ1 := hJ
            rw [hG] at hJ1
            have z1 := hJ1.1.cell p1 hne
            clear hJ1
            refine wpOp_val rfl (wanted_none rfl) ?_ (fK (.slice A n c) fW (hR_ fW) (by rw [hT]; exact rfl) (hP_ 7 _ fy fW rfl hJ))
            clear fK hE hF hJ hN
            go_simp
          refine stepsAll_cons (k := 8) ?_ ?_
          · intro fa fx fW fy hF hN hJ hE K fK
            have hJ : G (fy 11) fW := hJ
            have ev3 : fa.tmps[3]?.getD undef = .int .i64 0 := hF.eo 3 (by kernel_rfl)
            refine wpOp_val rfl (wanted_none rfl) ?_ (fK (.int .i64 0) fW (hR_ fW) (by rw [hT]; exact rfl) (hP_ 8 _ fy fW rfl hJ))
            clear fK hE hF hJ hN
            go_simp
          refine stepsAll_cons (k := 9) ?_ ?_
          · intro fa fx fW fy hF hN hJ hE K fK
            have hJ : G (fy 11) fW := hJ
            have q7 : fx 7 = .slice A n c := by have q := (hE ⟨7, .data⟩ (by simp) rfl).2; rw [hT] at q; exact q
            have q8 : fx 8 = .int .i64 0 := by have q := (hE ⟨8, .data⟩ (by simp) rfl).2; rw [hT] at q; exact q
            have ev27 : fa.tmps[27]?.getD undef = .slice A n c := (hF.ev 7 27 (by kernel_rfl)).trans q7
            have ev28 : fa.tmps[28]?.getD undef = .int .i64 0 := (hF.ev 8 28 (by kernel_rfl)).trans q8
            refine wpOp_val rfl (wanted_none rfl) ?_ (fK (.slice A 0 c) fW (hR_ fW) (by rw [hT]; exact rfl) (hP_ 9 _ fy fW rfl hJ))
            clear fK hE hF hJ hN
            go_simp
          refine stepsAll_cons (k := 10) ?_ ?_
          · intro fa fx fW fy hF hN hJ hE K fK
            have hJ : G (fy 11) fW := hJ
            have q5 : fx 5 = .bool (decide ((0 : Int) < (0 : Int))) := by have q := (hE ⟨5, .data⟩ (by simp) rfl).2; rw [hT] at q; exact q
            have q9 : fx 9 = .slice A 0 c := by have q := (hE ⟨9, .data⟩ (by simp) rfl).2; rw [hT] at q; exact q
            have ev25 : fa.tmps[25]?.getD undef = .bool (decide ((0 : Int) < (0 : Int))) := (hF.ev 5 25 (by kernel_rfl)).trans q5
            have ev29 : fa.tmps[29]?.getD undef = .slice A 0 c := (hF.ev 9 29 (by kernel_rfl)).trans q9
            refine wpOp_val rfl (wanted_none rfl) ?_ (fK (.agg #[.bool (decide ((0 : Int) < (0 : Int))), .slice A 0 c]) fW (hR_ fW) (by rw [hT]; exact rfl) (hP_ 10 _ fy fW rfl hJ))
            clear fK hE hF hJ hN
            go_simp
          refine stepsAll_cons (k := 11) ?_ ?_
          · intro fa fx fW fy hF hN hJ hE K fK
            have hJ : G (fy 11) fW := hJ
            have q10 : fx 10 = .agg #[.bool (decide ((0 : Int) < (0 : Int))), .slice A 0 c] := by have q := (hE ⟨10, .data⟩ (by simp) rfl).2; rw [hT] at q; exact q
            have ev30 : fa.tmps[30]?.getD undef = .agg #[.bool (decide ((0 : Int) < (0 : Int))), .slice A 0 c] := (hF.ev 10 30 (by kernel_rfl)).trans q10
            have ev2 : fa.tmps[2]?.getD undef = .pointer (some ⟨b0, 0, none⟩) := hF.eo 2 (by kernel_rfl)
            rw [hG, hN] at hJ
            obtain ⟨j0, j1, j2⟩ := hJ
            obtain ⟨x0, x1, x2⟩ := j1 rfl
            have a0 := x0.cell
            have a1 := x1.cell
            have f0 := x0.free
            have f1 := x1.free
            have hch : Chg (fun q => q = b0) fW ((fW.setCell ⟨b0, 0, none⟩ (.bool (decide ((0 : Int) < (0 : Int))))).setCell ⟨b0, 1, none⟩ (.slice A 0 c)) := ((Chg.refl (fun q => q = b0) fW).setCell b0 0 _ rfl).setCell b0 1 _ rfl
            have hgg := heap_setCell_same _ b0 1 _ 86 (.slice A 0 c) (heap_setCell_same fW b0 0 _ 86 (.bool (decide ((0 : Int) < (0 : Int)))) x2)
            refine wpOp_done rfl (wanted_none rfl) (W' := ((fW.setCell ⟨b0, 0, none⟩ (.bool (decide ((0 : Int) < (0 : Int))))).setCell ⟨b0, 1, none⟩ (.slice A 0 c))) (by clear fK hE hF hN hch hgg; go_simp) (fK undef _ (by rw [hS_]; exact hch) (by rw [hT]; exact rfl) ?_)
            show G (some undef) _
            rw [hG]
            exact ⟨j0.trans hch, (fun e => by cases e), fun _ => hgg⟩
          exact stepsAll_nil
        intro fa fx fW fy hF hJ0 hx
        have y11 : fy 11 = some (fx 11) := (hx 11 (by decide)).1
        have hJ : G (fy 11) fW := hJ0
        clear hJ0
        rw [y11] at hJ
        rw [hF.eq]
        clear hF hx hT T hP_ hR_ y11
        simp only [putAll, Act.put, List.setIfInBounds_toArray, List.set_cons_zero, List.set_cons_succ, ]
        rw [hG] at hJ
        obtain ⟨j0, j1, j2⟩ := hJ
        have hgf := j2 rfl
        go_wp2
        refine bodyPost_ret (results_cell_row rfl _ _ b0 _ #[.bool (decide ((0 : Int) < (0 : Int))), .slice A 0 c] (0, 0) _ (by rfl) hgf Try.underlying86 rfl (by kernel_rfl)) rfl ?_
        exact ⟨⟨_, rfl, A, 0, c, ds.take 0, by rw [sgn_true, ← HTV.out]; rfl, by rw [List.take_zero]; exact rds_zero hr2, dig_take HD.out _, HTR.out, by rw [HV.out]; exact (tell_abs true HD.out).symm, hk⟩, j0.toBelow hB hB.size (fun q e => by have := hbe.out; omega)⟩
    · obtain ⟨j, rfl⟩ : ∃ j, k = j + 1 := ⟨k - 1, by omega⟩
      have hjx : j < ds.length := by rw [HN.out]; omega
      obtain ⟨ad, rfl⟩ := hr2.some_ (by omega)
      have hcd := hr2.cell ad rfl j _ (nums_get .u32 ds j hjx)
      have H0 : Hid (ds[j] = 0 → valD (ds.take j) = valD ds) := fun h => valD_drop hjx h HV.out
      have H1 : Hid (ds[j] ≠ 0 → Trimmed (ds.take (j + 1))) := fun h => trimmed_take hjx h
      have hdj := HD.out _ (List.getElem_mem hjx)
      obtain ⟨d, hdd⟩ : ∃ d, d = ds[j] := ⟨_, rfl⟩
      rw [← hdd] at hcd H0 H1 hdj
      clear hdd
      rw [show Value.int .i64 ((j + 1 : Nat) : Int) = Value.int .i64 ((j : Int) + 1) by rw [Int.natCast_add]; rfl]
      by_cases hd0 : d = 0
      · have hde : (d == 0) = true := by simp [hd0]
        have HV2 := Lib.hid (H0.out hd0)
        clear H0 H1
        go_wp2
        go_roundw
        case rel => exact ⟨j, by omega, rfl, HV2.out, trivial⟩
        case measure => simp [intOf]
      · have hde : (d == 0) = false := by simp [hd0]
        have HTR := Lib.hid (H1.out hd0)
        clear H0 H1
        have hjc : ¬ ((c : Int) < (j : Int) + 1) := by omega
        have hj0 : ¬ ((j : Int) + 1 < 0) := by omega
        have HTV := Lib.hid (trim_sign HD.out HTR.out HV.out (by rw [HN.out]; exact hk))
        cases neg with
        | false =>
          go_wp2
          obtain ⟨G, hG⟩ : ∃ G : Option Value → World → Prop, ∀ a W, G a W = (Chg (fun q => q = b0) wr W ∧ (a = none → Box W b0 0 (.bool false) ∧ Box W b0 1 (.slice none 0 0) ∧ W.heap[b0]? = some (.cells #[.bool false, .slice none 0 0] 86 (0, 0))) ∧ (a.isSome = true → W.heap[b0]? = some (.cells #[.bool false, .slice (some ad) (j + 1) c] 86 (0, 0)))) := ⟨_, fun _ _ => rfl⟩
          obtain ⟨S_, hS_⟩ : ∃ S_ : World → World → Prop, S_ = (Chg (fun q => q = b0)) := ⟨_, rfl⟩
          have hR_ : ∀ W, S_ W W := by intro W; rw [hS_]; exact Chg.refl _ _
          obtain ⟨T, hT⟩ : ∃ T : Nat → FactS S_, ∀ t_, T t_ = ([FactS.eq (.pointer (some ⟨b1, 0, none⟩)), FactS.eq (.bool false), FactS.eq (.bool false), FactS.eq (undef), FactS.eq (undef), FactS.eq (.bool false), FactS.eq (.pointer (some ⟨b1, 1, none⟩)), FactS.eq (.slice (some ad) n c), FactS.eq (.int .i64 ((j : Int) + 1)), FactS.eq (.slice (some ad) (j + 1) c), FactS.eq (.agg #[.bool false, .slice (some ad) (j + 1) c]), FactS.eq (undef)] : List (FactS S_)).getD t_ FactS.any := ⟨_, fun _ => rfl⟩
          have hP_ : ∀ i_ v_ (y_ : Nat → Option Value) W_, ([11].contains i_) = false → G (y_ 11) W_ → G (updY y_ i_ v_ 11) W_ := by
            intro i_ v_ y_ W_ hi_ h_
            simp only [List.contains_cons, List.contains_nil, Bool.or_false, beq_eq_false_iff_ne, ne_eq] at hi_
            rw [updY_ne y_ i_ v_ hi_]
            exact h_
          refine region_tabJ [(0, 20), (1, 21), (2, 22), (3, 23), (4, 24), (5, 25), (6, 26), (7, 27), (8, 28), (9, 29), (10, 30)] S_ T (fun y_ W_ => G (y_ 11) W_) (by kernel_rfl) (by kernel_rfl) (by kernel_rfl) (by kernel_rfl) (by kernel_rfl) ?_ ?_ ?_
          · skip
            show G none _
            rw [hG]
            exact ⟨(Chg.refl _ _).drewN 1, fun _ => ⟨q0.drew 1, q1.drew 1, hg0⟩, fun h => by cases h⟩
          · skip
            refine stepsAll_cons (k := 0) ?_ ?_
            · intro fa fx fW fy hF hN hJ hE K fK
              have hJ : G (fy 11) fW := hJ
              have ev1 : fa.tmps[1]?.getD undef = .pointer (some ⟨b1, 0, none⟩) := hF.eo 1 (by kernel_rfl)
              refine wpOp_val rfl (wanted_none rfl) ?_ (fK (.pointer (some ⟨b1, 0, none⟩)) fW (hR_ fW) (by rw [hT]; exact rfl) (hP_ 0 _ fy fW rfl hJ))
              clear fK hE hF hJ hN
              go_simp
            refine stepsAll_cons (k := 1) ?_ ?_
            · intro fa fx fW fy hF hN hJ hE K fK
              have hJ : G (fy 11) fW := hJ
              have q0 : fx 0 = .pointer (some ⟨b1, 0, none⟩) := by have q := (hE ⟨0, .data⟩ (by simp) rfl).2; rw [hT] at q; exact q
              have ev20 : fa.tmps[20]?.getD undef = .pointer (some ⟨b1, 0, none⟩) := (hF.ev 0 20 (by kernel_rfl)).trans q0
              have hJ1 := hJ
              rw [hG] at hJ1
              have z0 := hJ1.1.cell p0 hne
              clear hJ1
              refine wpOp_val rfl (wanted_none rfl) ?_ (fK (.bool false) fW (hR_ fW) (by rw [hT]; exact rfl) (hP_ 1 _ fy fW rfl hJ))
              clear fK hE hF hJ hN
              go_simp
            refine stepsAll_cons (k := 2) ?_ ?_
            · intro fa fx fW fy hF hN hJ hE K fK
              have hJ : G (fy 11) fW := hJ
              have q1 : fx 1 = .bool false := by have q := (hE ⟨1, .data⟩ (by simp) rfl).2; rw [hT] at q; exact q
              have ev21 : fa.tmps[21]?.getD undef = .bool false := (hF.ev 1 21 (by kernel_rfl)).trans q1
              refine wpOp_val rfl (wanted_none rfl) ?_ (fK (.bool false) fW (hR_ fW) (by rw [hT]; exact rfl) (hP_ 2 _ fy fW rfl hJ))
              clear fK hE hF hJ hN
              go_simp
            refine stepsAll_cons (k := 3) ?_ ?_
            · intro fa fx fW fy hF hN hJ hE K fK
              have hJ : G (fy 11) fW := hJ
              have q2 : fx 2 = .bool false := by have q := (hE ⟨2, .guard⟩ (by simp) rfl).2; rw [hT] at q; exact q
              have ev3 : fa.tmps[3]?.getD undef = .int .i64 ((j : Int) + 1) := hF.eo 3 (by kernel_rfl)
              exact wpOp_skip rfl (by simp [Region.wanted, hF.yes 2 22 (by kernel_rfl) false q2]) (fK undef fW (hR_ fW) (by rw [hT]; exact rfl) (hP_ 3 _ fy fW rfl hJ))
            refine stepsAll_cons (k := 4) ?_ ?_
            · intro fa fx fW fy hF hN hJ hE K fK
              have hJ : G (fy 11) fW := hJ
              have q2 : fx 2 = .bool false := by have q := (hE ⟨2, .guard⟩ (by simp) rfl).2; rw [hT] at q; exact q
              have q3 : fx 3 = undef := by have q := (hE ⟨3, .data⟩ (by simp) rfl).2; rw [hT] at q; exact q
              have ev23 : fa.tmps[23]?.getD undef = undef := (hF.ev 3 23 (by kernel_rfl)).trans q3
              exact wpOp_skip rfl (by simp [Region.wanted, hF.yes 2 22 (by kernel_rfl) false q2]) (fK undef fW (hR_ fW) (by rw [hT]; exact rfl) (hP_ 4 _ fy fW rfl hJ))
            refine stepsAll_cons (k := 5) ?_ ?_
            · intro fa fx fW fy hF hN hJ hE K fK
              have hJ : G (fy 11) fW := hJ
              have q2 : fx 2 = .bool false := by have q := (hE ⟨2, .data⟩ (by simp) rfl).2; rw [hT] at q; exact q
              have q4 : fx 4 = undef := by have q := (hE ⟨4, .data⟩ (by simp) rfl).2; rw [hT] at q; exact q
              have ev22 : fa.tmps[22]?.getD undef = .bool false := (hF.ev 2 22 (by kernel_rfl)).trans q2
              have ev24 : fa.tmps[24]?.getD undef = undef := (hF.ev 4 24 (by kernel_rfl)).trans q4
              refine wpOp_val rfl (wanted_none rfl) ?_ (fK (.bool false) fW (hR_ fW) (by rw [hT]; exact rfl) (hP_ 5 _ fy fW rfl hJ))
              clear fK hE hF hJ hN
              go_simp
            refine stepsAll_cons (k := 6) ?_ ?_
            · intro fa fx fW fy hF hN hJ hE K fK
              have hJ : G (fy 11) fW := hJ
              have ev1 : fa.tmps[1]?.getD undef = .pointer (some ⟨b1, 0, none⟩) := hF.eo 1 (by kernel_rfl)
              refine wpOp_val rfl (wanted_none rfl) ?_ (fK (.pointer (some ⟨b1, 1, none⟩)) fW (hR_ fW) (by rw [hT]; exact rfl) (hP_ 6 _ fy fW rfl hJ))
              clear fK hE hF hJ hN
              go_simp
            refine stepsAll_cons (k := 7) ?_ ?_
            · intro fa fx fW fy hF hN hJ hE K fK
              have hJ : G (fy 11) fW := hJ
              have q6 : fx 6 = .pointer (some ⟨b1, 1, none⟩) := by have q := (hE ⟨6, .data⟩ (by simp) rfl).2; rw [hT] at q; exact q
              have ev26 : fa.tmps[26]?.getD undef = .pointer (some ⟨b1, 1, none⟩) := (hF.ev 6 26 (by kernel_rfl)).trans q6
              have hJ1 := hJ
              rw [hG] at hJ1
              have z1 := hJ1.1.cell p1 hne
              clear hJ1
              refine wpOp_val rfl (wanted_none rfl) ?_ (fK (.slice (some ad) n c) fW (hR_ fW) (by rw [hT]; exact rfl) (hP_ 7 _ fy fW rfl hJ))
              clear fK hE hF hJ hN
              go_simp
            refine stepsAll_cons (k := 8) ?_ ?_
            · intro fa fx fW fy hF hN hJ hE K fK
              have hJ : G (fy 11) fW := hJ
              have ev3 : fa.tmps[3]?.getD undef = .int .i64 ((j : Int) + 1) := hF.eo 3 (by kernel_rfl)
              refine wpOp_val rfl (wanted_none rfl) ?_ (fK (.int .i64 ((j : Int) + 1)) fW (hR_ fW) (by rw [hT]; exact rfl) (hP_ 8 _ fy fW rfl hJ))
              clear fK hE hF hJ hN
              go_simp
            refine stepsAll_cons (k := 9) ?_ ?_
            · intro fa fx fW fy hF hN hJ hE K fK
              have hJ : G (fy 11) fW := hJ
              have q7 : fx 7 = .slice (some ad) n c := by have q := (hE ⟨7, .data⟩ (by simp) rfl).2; rw [hT] at q; exact q
              have q8 : fx 8 = .int .i64 ((j : Int) + 1) := by have q := (hE ⟨8, .data⟩ (by simp) rfl).2; rw [hT] at q; exact q
              have ev27 : fa.tmps[27]?.getD undef = .slice (some ad) n c := (hF.ev 7 27 (by kernel_rfl)).trans q7
              have ev28 : fa.tmps[28]?.getD undef = .int .i64 ((j : Int) + 1) := (hF.ev 8 28 (by kernel_rfl)).trans q8
              refine wpOp_val rfl (wanted_none rfl) ?_ (fK (.slice (some ad) (j + 1) c) fW (hR_ fW) (by rw [hT]; exact rfl) (hP_ 9 _ fy fW rfl hJ))
              clear fK hE hF hJ hN
              go_simp
            refine stepsAll_cons (k := 10) ?_ ?_
            · intro fa fx fW fy hF hN hJ hE K fK
              have hJ : G (fy 11) fW := hJ
              have q5 : fx 5 = .bool false := by have q := (hE ⟨5, .data⟩ (by simp) rfl).2; rw [hT] at q; exact q
              have q9 : fx 9 = .slice (some ad) (j + 1) c := by have q := (hE ⟨9, .data⟩ (by simp) rfl).2; rw [hT] at q; exact q
              have ev25 : fa.tmps[25]?.getD undef = .bool false := (hF.ev 5 25 (by kernel_rfl)).trans q5
              have ev29 : fa.tmps[29]?.getD undef = .slice (some ad) (j + 1) c := (hF.ev 9 29 (by kernel_rfl)).trans q9
              refine wpOp_val rfl (wanted_none rfl) ?_ (fK (.agg #[.bool false, .slice (some ad) (j + 1) c]) fW (hR_ fW) (by rw [hT]; exact rfl) (hP_ 10 _ fy fW rfl hJ))
              clear fK hE hF hJ hN
              go_simp
            refine stepsAll_cons (k := 11) ?_ ?_
            · intro fa fx fW fy hF hN hJ hE K fK
              have hJ : G (fy 11) fW := hJ
              have q10 : fx 10 = .agg #[.bool false, .slice (some ad) (j + 1) c] := by have q := (hE ⟨10, .data⟩ (by simp) rfl).2; rw [hT] at q; exact q
              have ev30 : fa.tmps[30]?.getD undef = .agg #[.bool false, .slice (some ad) (j + 1) c] := (hF.ev 10 30 (by kernel_rfl)).trans q10
              have ev2 : fa.tmps[2]?.getD undef = .pointer (some ⟨b0, 0, none⟩) := hF.eo 2 (by kernel_rfl)
              rw [hG, hN] at hJ
              obtain ⟨j0, j1, j2⟩ := hJ
              obtain ⟨x0, x1, x2⟩ := j1 rfl
              have a0 := x0.cell
              have a1 := x1.cell
              have f0 := x0.free
              have f1 := x1.free
              have hch : Chg (fun q => q = b0) fW ((fW.setCell ⟨b0, 0, none⟩ (.bool false)).setCell ⟨b0, 1, none⟩ (.slice (some ad) (j + 1) c)) := ((Chg.refl (fun q => q = b0) fW).setCell b0 0 _ rfl).setCell b0 1 _ rfl
              have hgg := heap_setCell_same _ b0 1 _ 86 (.slice (some ad) (j + 1) c) (heap_setCell_same fW b0 0 _ 86 (.bool false) x2)
              refine wpOp_done rfl (wanted_none rfl) (W' := ((fW.setCell ⟨b0, 0, none⟩ (.bool false)).setCell ⟨b0, 1, none⟩ (.slice (some ad) (j + 1) c))) (by clear fK hE hF hN hch hgg; go_simp) (fK undef _ (by rw [hS_]; exact hch) (by rw [hT]; exact rfl) ?_)
              show G (some undef) _
              rw [hG]
              exact ⟨j0.trans hch, (fun e => by cases e), fun _ => hgg⟩
            exact stepsAll_nil
          intro fa fx fW fy hF hJ0 hx
          have y11 : fy 11 = some (fx 11) := (hx 11 (by decide)).1
          have hJ : G (fy 11) fW := hJ0
          clear hJ0
          rw [y11] at hJ
          rw [hF.eq]
          clear hF hx hT T hP_ hR_ y11
          simp only [putAll, Act.put, List.setIfInBounds_toArray, List.set_cons_zero, List.set_cons_succ, ]
          rw [hG] at hJ
          obtain ⟨j0, j1, j2⟩ := hJ
          have hgf := j2 rfl
          go_wp2
          refine bodyPost_ret (results_cell_row rfl _ _ b0 _ #[.bool false, .slice (some ad) (j + 1) c] (0, 0) _ (by rfl) hgf Try.underlying86 rfl (by kernel_rfl)) rfl ?_
          exact ⟨⟨_, rfl, (some ad), (j + 1), c, ds.take (j + 1), by rw [sgn_false HD.out], by have := j0.rds (hr2.take_ (j + 1) (by omega)) (fun ad' e => HAB.out ad' e (by omega)); rwa [Nat.mul_one, show (nums .u32 ds).take (j + 1) = nums .u32 (ds.take (j + 1)) by simp [nums, List.map_take]] at this, dig_take HD.out _, HTR.out, by rw [HV.out]; exact (tell_abs false HD.out).symm, hk⟩, j0.toBelow hB hB.size (fun q e => by have := hbe.out; omega)⟩
        | true =>
          go_wp2
          obtain ⟨G, hG⟩ : ∃ G : Option Value → World → Prop, ∀ a W, G a W = (Chg (fun q => q = b0) wr W ∧ (a = none → Box W b0 0 (.bool false) ∧ Box W b0 1 (.slice none 0 0) ∧ W.heap[b0]? = some (.cells #[.bool false, .slice none 0 0] 86 (0, 0))) ∧ (a.isSome = true → W.heap[b0]? = some (.cells #[.bool (decide ((0 : Int) < (((j : Int) + 1) : Int))), .slice (some ad) (j + 1) c] 86 (0, 0)))) := ⟨_, fun _ _ => rfl⟩
          obtain ⟨S_, hS_⟩ : ∃ S_ : World → World → Prop, S_ = (Chg (fun q => q = b0)) := ⟨_, rfl⟩
          have hR_ : ∀ W, S_ W W := by intro W; rw [hS_]; exact Chg.refl _ _
          obtain ⟨T, hT⟩ : ∃ T : Nat → FactS S_, ∀ t_, T t_ = ([FactS.eq (.pointer (some ⟨b1, 0, none⟩)), FactS.eq (.bool true), FactS.eq (.bool true), FactS.eq (.int .i64 ((j : Int) + 1)), FactS.eq (.bool (decide ((0 : Int) < (((j : Int) + 1) : Int)))), FactS.eq (.bool (decide ((0 : Int) < (((j : Int) + 1) : Int)))), FactS.eq (.pointer (some ⟨b1, 1, none⟩)), FactS.eq (.slice (some ad) n c), FactS.eq (.int .i64 ((j : Int) + 1)), FactS.eq (.slice (some ad) (j + 1) c), FactS.eq (.agg #[.bool (decide ((0 : Int) < (((j : Int) + 1) : Int))), .slice (some ad) (j + 1) c]), FactS.eq (undef)] : List (FactS S_)).getD t_ FactS.any := ⟨_, fun _ => rfl⟩
          have hP_ : ∀ i_ v_ (y_ : Nat → Option Value) W_, ([11].contains i_) = false → G (y_ 11) W_ → G (updY y_ i_ v_ 11) W_ := by
            intro i_ v_ y_ W_ hi_ h_
            simp only [List.contains_cons, List.contains_nil, Bool.or_false, beq_eq_false_iff_ne, ne_eq] at hi_
            rw [updY_ne y_ i_ v_ hi_]
            exact h_
          refine region_tabJ [(0, 20), (1, 21), (2, 22), (3, 23), (4, 24), (5, 25), (6, 26), (7, 27), (8, 28), (9, 29), (10, 30)] S_ T (fun y_ W_ => G (y_ 11) W_) (by kernel_rfl) (by kernel_rfl) (by kernel_rfl) (by kernel_rfl) (by kernel_rfl) ?_ ?_ ?_
          · skip
            show G none _
            rw [hG]
            exact ⟨(Chg.refl _ _).drewN 1, fun _ => ⟨q0.drew 1, q1.drew 1, hg0⟩, fun h => by cases h⟩
          · skip
            refine stepsAll_cons (k := 0) ?_ ?_
            · intro fa fx fW fy hF hN hJ hE K fK
              have hJ : G (fy 11) fW := hJ
              have ev1 : fa.tmps[1]?.getD undef = .pointer (some ⟨b1, 0, none⟩) := hF.eo 1 (by kernel_rfl)
              refine wpOp_val rfl (wanted_none rfl) ?_ (fK (.pointer (some ⟨b1, 0, none⟩)) fW (hR_ fW) (by rw [hT]; exact rfl) (hP_ 0 _ fy fW rfl hJ))
              clear fK hE hF hJ hN
              go_simp
            refine stepsAll_cons (k := 1) ?_ ?_
            · intro fa fx fW fy hF hN hJ hE K fK
              have hJ : G (fy 11) fW := hJ
              have q0 : fx 0 = .pointer (some ⟨b1, 0, none⟩) := by have q := (hE ⟨0, .data⟩ (by simp) rfl).2; rw [hT] at q; exact q
              have ev20 : fa.tmps[20]?.getD undef = .pointer (some ⟨b1, 0, none⟩) := (hF.ev 0 20 (by kernel_rfl)).trans q0
              have hJ1 := hJ
              rw [hG] at hJ1
              have z0 := hJ1.1.cell p0 hne
              clear hJ1
              refine wpOp_val rfl (wanted_none rfl) ?_ (fK (.bool true) fW (hR_ fW) (by rw [hT]; exact rfl) (hP_ 1 _ fy fW rfl hJ))
              clear fK hE hF hJ hN
              go_simp
            refine stepsAll_cons (k := 2) ?_ ?_
            · intro fa fx fW fy hF hN hJ hE K fK
              have hJ : G (fy 11) fW := hJ
              have q1 : fx 1 = .bool true := by have q := (hE ⟨1, .data⟩ (by simp) rfl).2; rw [hT] at q; exact q
              have ev21 : fa.tmps[21]?.getD undef = .bool true := (hF.ev 1 21 (by kernel_rfl)).trans q1
              refine wpOp_val rfl (wanted_none rfl) ?_ (fK (.bool true) fW (hR_ fW) (by rw [hT]; exact rfl) (hP_ 2 _ fy fW rfl hJ))
              clear fK hE hF hJ hN
              go_simp
            refine stepsAll_cons (k := 3) ?_ ?_
            · intro fa fx fW fy hF hN hJ hE K fK
              have hJ : G (fy 11) fW := hJ
              have q2 : fx 2 = .bool true := by have q := (hE ⟨2, .guard⟩ (by simp) rfl).2; rw [hT] at q; exact q
              have ev3 : fa.tmps[3]?.getD undef = .int .i64 ((j : Int) + 1) := hF.eo 3 (by kernel_rfl)
              refine wpOp_val rfl (wanted_yes rfl (hF.yes 2 22 (by kernel_rfl) true q2)) ?_ (fK (.int .i64 ((j : Int) + 1)) fW (hR_ fW) (by rw [hT]; exact rfl) (hP_ 3 _ fy fW rfl hJ))
              clear fK hE hF hJ hN
              go_simp
            refine stepsAll_cons (k := 4) ?_ ?_
            · intro fa fx fW fy hF hN hJ hE K fK
              have hJ : G (fy 11) fW := hJ
              have q2 : fx 2 = .bool true := by have q := (hE ⟨2, .guard⟩ (by simp) rfl).2; rw [hT] at q; exact q
              have q3 : fx 3 = .int .i64 ((j : Int) + 1) := by have q := (hE ⟨3, .data⟩ (by simp) rfl).2; rw [hT] at q; exact q
              have ev23 : fa.tmps[23]?.getD undef = .int .i64 ((j : Int) + 1) := (hF.ev 3 23 (by kernel_rfl)).trans q3
              refine wpOp_val rfl (wanted_yes rfl (hF.yes 2 22 (by kernel_rfl) true q2)) ?_ (fK (.bool (decide ((0 : Int) < (((j : Int) + 1) : Int)))) fW (hR_ fW) (by rw [hT]; exact rfl) (hP_ 4 _ fy fW rfl hJ))
              clear fK hE hF hJ hN
              go_simp
            refine stepsAll_cons (k := 5) ?_ ?_
            · intro fa fx fW fy hF hN hJ hE K fK
              have hJ : G (fy 11) fW := hJ
              have q2 : fx 2 = .bool true := by have q := (hE ⟨2, .data⟩ (by simp) rfl).2; rw [hT] at q; exact q
              have q4 : fx 4 = .bool (decide ((0 : Int) < (((j : Int) + 1) : Int))) := by have q := (hE ⟨4, .data⟩ (by simp) rfl).2; rw [hT] at q; exact q
              have ev22 : fa.tmps[22]?.getD undef = .bool true := (hF.ev 2 22 (by kernel_rfl)).trans q2
              have ev24 : fa.tmps[24]?.getD undef = .bool (decide ((0 : Int) < (((j : Int) + 1) : Int))) := (hF.ev 4 24 (by kernel_rfl)).trans q4
              refine wpOp_val rfl (wanted_none rfl) ?_ (fK (.bool (decide ((0 : Int) < (((j : Int) + 1) : Int)))) fW (hR_ fW) (by rw [hT]; exact rfl) (hP_ 5 _ fy fW rfl hJ))
              clear fK hE hF hJ hN
              go_simp
            refine stepsAll_cons (k := 6) ?_ ?_
            · intro fa fx fW fy hF hN hJ hE K fK
              have hJ : G (fy 11) fW := hJ
              have ev1 : fa.tmps[1]?.getD undef = .pointer (some ⟨b1, 0, none⟩) := hF.eo 1 (by kernel_rfl)
              refine wpOp_val rfl (wanted_none rfl) ?_ (fK (.pointer (some ⟨b1, 1, none⟩)) fW (hR_ fW) (by rw [hT]; exact rfl) (hP_ 6 _ fy fW rfl hJ))
              clear fK hE hF hJ hN
              go_simp
            refine stepsAll_cons (k := 7) ?_ ?_
            · intro fa fx fW fy hF hN hJ hE K fK
              have hJ : G (fy 11) fW := hJ
              have q6 : fx 6 = .pointer (some ⟨b1, 1, none⟩) := by have q := (hE ⟨6, .data⟩ (by simp) rfl).2; rw [hT] at q; exact q
              have ev26 : fa.tmps[26]?.getD undef = .pointer (some ⟨b1, 1, none⟩) := (hF.ev 6 26 (by kernel_rfl)).trans q6
              have hJ1 := hJ
              rw [hG] at hJ1
              have z1 := hJ1.1.cell p1 hne
              clear hJ1
              refine wpOp_val rfl (wanted_none rfl) ?_ (fK (.slice (some ad) n c) fW (hR_ fW) (by rw [hT]; exact rfl) (hP_ 7 _ fy fW rfl hJ))
              clear fK hE hF hJ hN
              go_simp
            refine stepsAll_cons (k := 8) ?_ ?_
            · intro fa fx fW fy hF hN hJ hE K fK
              have hJ : G (fy 11) fW := hJ
              have ev3 : fa.tmps[3]?.getD undef = .int .i64 ((j : Int) + 1) := hF.eo 3 (by kernel_rfl)
              refine wpOp_val rfl (wanted_none rfl) ?_ (fK (.int .i64 ((j : Int) + 1)) fW (hR_ fW) (by rw [hT]; exact rfl) (hP_ 8 _ fy fW rfl hJ))
              clear fK hE hF hJ hN
              go_simp
            refine stepsAll_cons (k := 9) ?_ ?_
            · intro fa fx fW fy hF hN hJ hE K fK
              have hJ : G (fy 11) fW := hJ
              have q7 : fx 7 = .slice (some ad) n c := by have q := (hE ⟨7, .data⟩ (by simp) rfl).2; rw [hT] at q; exact q
              have q8 : fx 8 = .int .i64 ((j : Int) + 1) := by have q := (hE ⟨8, .data⟩ (by simp) rfl).2; rw [hT] at q; exact q
              have ev27 : fa.tmps[27]?.getD undef = .slice (some ad) n c := (hF.ev 7 27 (by kernel_rfl)).trans q7
              have ev28 : fa.tmps[28]?.getD undef = .int .i64 ((j : Int) + 1) := (hF.ev 8 28 (by kernel_rfl)).trans q8
              refine wpOp_val rfl (wanted_none rfl) ?_ (fK (.slice (some ad) (j + 1) c) fW (hR_ fW) (by rw [hT]; exact rfl) (hP_ 9 _ fy fW rfl hJ))
              clear fK hE hF hJ hN
              go_simp
            refine stepsAll_cons (k := 10) ?_ ?_
            · intro fa fx fW fy hF hN hJ hE K fK
              have hJ : G (fy 11) fW := hJ
              have q5 : fx 5 = .bool (decide ((0 : Int) < (((j : Int) + 1) : Int))) := by have q := (hE ⟨5, .data⟩ (by simp) rfl).2; rw [hT] at q; exact q
              have q9 : fx 9 = .slice (some ad) (j + 1) c := by have q := (hE ⟨9, .data⟩ (by simp) rfl).2; rw [hT] at q; exact q
              have ev25 : fa.tmps[25]?.getD undef = .bool (decide ((0 : Int) < (((j : Int) + 1) : Int))) := (hF.ev 5 25 (by kernel_rfl)).trans q5
              have ev29 : fa.tmps[29]?.getD undef = .slice (some ad) (j + 1) c := (hF.ev 9 29 (by kernel_rfl)).trans q9
              refine wpOp_val rfl (wanted_none rfl) ?_ (fK (.agg #[.bool (decide ((0 : Int) < (((j : Int) + 1) : Int))), .slice (some ad) (j + 1) c]) fW (hR_ fW) (by rw [hT]; exact rfl) (hP_ 10 _ fy fW rfl hJ))
              clear fK hE hF hJ hN
              go_simp
            refine stepsAll_cons (k := 11) ?_ ?_
            · intro fa fx fW fy hF hN hJ hE K fK
              have hJ : G (fy 11) fW := hJ
              have q10 : fx 10 = .agg #[.bool (decide ((0 : Int) < (((j : Int) + 1) : Int))), .slice (some ad) (j + 1) c] := by have q := (hE ⟨10, .data⟩ (by simp) rfl).2; rw [hT] at q; exact q
              have ev30 : fa.tmps[30]?.getD undef = .agg #[.bool (decide ((0 : Int) < (((j : Int) + 1) : Int))), .slice (some ad) (j + 1) c] := (hF.ev 10 30 (by kernel_rfl)).trans q10
              have ev2 : fa.tmps[2]?.getD undef = .pointer (some ⟨b0, 0, none⟩) := hF.eo 2 (by kernel_rfl)
              rw [hG, hN] at hJ
              obtain ⟨j0, j1, j2⟩ := hJ
              obtain ⟨x0, x1, x2⟩ := j1 rfl
              have a0 := x0.cell
              have a1 := x1.cell
              have f0 := x0.free
              have f1 := x1.free
              have hch : Chg (fun q => q = b0) fW ((fW.setCell ⟨b0, 0, none⟩ (.bool (decide ((0 : Int) < (((j : Int) + 1) : Int))))).setCell ⟨b0, 1, none⟩ (.slice (some ad) (j + 1) c)) := ((Chg.refl (fun q => q = b0) fW).setCell b0 0 _ rfl).setCell b0 1 _ rfl
              have hgg := heap_setCell_same _ b0 1 _ 86 (.slice (some ad) (j + 1) c) (heap_setCell_same fW b0 0 _ 86 (.bool (decide ((0 : Int) < (((j : Int) + 1) : Int)))) x2)
              refine wpOp_done rfl (wanted_none rfl) (W' := ((fW.setCell ⟨b0, 0, none⟩ (.bool (decide ((0 : Int) < (((j : Int) + 1) : Int))))).setCell ⟨b0, 1, none⟩ (.slice (some ad) (j + 1) c))) (by clear fK hE hF hN hch hgg; go_simp) (fK undef _ (by rw [hS_]; exact hch) (by rw [hT]; exact rfl) ?_)
              show G (some undef) _
              rw [hG]
              exact ⟨j0.trans hch, (fun e => by cases e), fun _ => hgg⟩
            exact stepsAll_nil
          intro fa fx fW fy hF hJ0 hx
          have y11 : fy 11 = some (fx 11) := (hx 11 (by decide)).1
          have hJ : G (fy 11) fW := hJ0
          clear hJ0
          rw [y11] at hJ
          rw [hF.eq]
          clear hF hx hT T hP_ hR_ y11
          simp only [putAll, Act.put, List.setIfInBounds_toArray, List.set_cons_zero, List.set_cons_succ, ]
          rw [hG] at hJ
          obtain ⟨j0, j1, j2⟩ := hJ
          have hgf := j2 rfl
          go_wp2
          refine bodyPost_ret (results_cell_row rfl _ _ b0 _ #[.bool (decide ((0 : Int) < (((j : Int) + 1) : Int))), .slice (some ad) (j + 1) c] (0, 0) _ (by rfl) hgf Try.underlying86 rfl (by kernel_rfl)) rfl ?_
          exact ⟨⟨_, rfl, (some ad), (j + 1), c, ds.take (j + 1), by rw [sgn_true, ← HTV.out]; rfl, by have := j0.rds (hr2.take_ (j + 1) (by omega)) (fun ad' e => HAB.out ad' e (by omega)); rwa [Nat.mul_one, show (nums .u32 ds).take (j + 1) = nums .u32 (ds.take (j + 1)) by simp [nums, List.map_take]] at this, dig_take HD.out _, HTR.out, by rw [HV.out]; exact (tell_abs true HD.out).symm, hk⟩, j0.toBelow hB hB.size (fun q e => by have := hbe.out; omega)⟩
end Go.Proofs.Ytopikpjagjnbhaa

/- wherryref01: Cmp. -/
namespace Go.Proofs.Ytopikpjagjnbhaa
open Go.RowKit
theorem natAbs_pos {z : Int} (h : 0 ≤ z) : (z.natAbs : Int) = z := by omega
theorem cmp_neg (x y : Int) (hx : x < 0) (hy : y < 0) : cmpV y.natAbs x.natAbs = cmpV x y := by
  unfold cmpV
  by_cases h1 : x < y
  · rw [if_pos h1, if_pos (by omega)]
  · rw [if_neg h1, if_neg (by omega)]
    by_cases h2 : y < x
    · rw [if_pos h2, if_pos (by omega)]
    · rw [if_neg h2, if_neg (by omega)]
end Go.Proofs.Ytopikpjagjnbhaa

/- wherryref01: Times. -/
namespace Go.Proofs.Ytopikpjagjnbhaa
open Go.RowKit
theorem and32 (y : Int) (h0 : 0 ≤ y) (h1 : y ≤ 4294967295) : bits BinOp.and IntKind.u32 y 65535 = y % 65536 := by
  obtain ⟨k, rfl⟩ : ∃ k : Nat, y = k := ⟨y.toNat, by omega⟩
  have e := u32_and_nat k 65535 (by omega) (by decide)
  have e2 : k &&& 65535 = k % 65536 := Nat.and_two_pow_sub_one_eq_mod k 16
  rw [e2] at e
  rw [show (65535 : Int) = ((65535 : Nat) : Int) from rfl, e]
  omega
theorem tell_mul (x y : Int) {ds : List Int} (h : valD ds = x.natAbs * y.natAbs) : tellD (!decide (x < 0) == decide (y < 0)) ds = x * y := by
  unfold tellD
  rw [h]
  by_cases h1 : x < 0 <;> by_cases h2 : y < 0
  · rw [show ((x.natAbs : Nat) : Int) = -x by omega, show ((y.natAbs : Nat) : Int) = -y by omega, Int.neg_mul_neg]
    simp [h1, h2]
  · rw [show ((x.natAbs : Nat) : Int) = -x by omega, show ((y.natAbs : Nat) : Int) = y by omega, Int.neg_mul]
    simp [h1, h2]
  · rw [show ((x.natAbs : Nat) : Int) = x by omega, show ((y.natAbs : Nat) : Int) = -y by omega, Int.mul_neg]
    simp [h1, h2]
  · rw [show ((x.natAbs : Nat) : Int) = x by omega, show ((y.natAbs : Nat) : Int) = y by omega]
    simp [h1, h2]
/-- A slice of digits lies in no box of a wide number. -/
theorem wide_apart {w : World} {b : Nat} {x : Bool} {A' : Option Addr} {p q : Nat} {T : TypeId} {tag : Nat × Nat} {ad : Addr} {n c : Nat} {ds : List Int} {k : IntKind} (hg : w.heap[b]? = some (.cells #[.bool x, .slice A' p q] T tag)) (hr : Rds w 1 (some ad) n c (nums k ds)) (hn : 0 < n) : ¬ ad.block = b := by
  intro e
  have hl : 0 < ds.length := by rw [u32s_len hr]; exact hn
  have h := hr.cell ad rfl 0 _ (nums_get k ds 0 hl)
  have h0 : ad.add 0 = ad := by simp [Addr.add]
  rw [h0] at h
  unfold World.cell? at h
  rw [e, hg] at h
  simp only at h
  rcases hs : ad.spot with _ | s
  all_goals
    rw [hs] at h
    rcases ho : ad.off with _ | _ | o
    all_goals
      rw [ho] at h
      simp at h
theorem Rds.set_away {w : World} {b o : Nat} {v : Value} {sz n c : Nat} {A : Option Addr} {cs : List Value} (h : Rds w sz A n c cs) (ha : ∀ ad, A = some ad → 0 < n → ¬ ad.block = b) : Rds (w.setCell ⟨b, o, none⟩ v) sz A n c cs := by
  rcases Nat.eq_zero_or_pos n with h0 | h0
  · subst h0
    have hl := h.len
    rw [Nat.zero_mul] at hl
    obtain rfl := List.eq_nil_of_length_eq_zero hl
    exact ⟨h.len, h.le, h.max, h.nil, fun ad e j u hj => by simp at hj⟩
  · exact h.same (fun ad e => heap_setCell_other w ⟨b, o, none⟩ ad.block v (ha ad e h0))
/-- A wide number stored in its box and told. -/
theorem Wd.boxed {w : World} {b : Nat} {x : Bool} {A' : Option Addr} {p q : Nat} {T : TypeId} {tag : Nat × Nat} {s : Bool} {A : Option Addr} {n c N : Nat} {z : Int} (hg : w.heap[b]? = some (.cells #[.bool x, .slice A' p q] T tag)) (h : Wd w (.agg #[.bool s, .slice A n c]) z N) (o1 o2 : Nat) (v1 v2 : Value) :
    Wd ((w.setCell ⟨b, o1, none⟩ v1).setCell ⟨b, o2, none⟩ v2) (.agg #[.bool s, .slice A n c]) z N := by
  obtain ⟨A1, n1, c1, ds, he, hr, h1⟩ := h
  cases he
  have ha : ∀ ad, A = some ad → 0 < n → ¬ ad.block = b := fun ad e hn => by subst e; exact wide_apart hg hr hn
  exact ⟨_, _, _, ds, rfl, (hr.set_away ha).set_away ha, h1⟩
end Go.Proofs.Ytopikpjagjnbhaa
