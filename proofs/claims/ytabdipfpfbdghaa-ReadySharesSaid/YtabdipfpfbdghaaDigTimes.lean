/- wherryref01: Times. -/
import Derived.Test.YtabdipfpfbdghaaDigCmp
import Derived.Test.YtabdipfpfbdghaaDigTimesPlain
import Derived.Laws.BitsAllLaws
namespace Go.Proofs.Ytabdipfpfbdghaa
open Go.RowKit
theorem and32 (y : Int) (h0 : 0 ≤ y) (h1 : y ≤ 4294967295) : bits BinOp.and IntKind.u32 y 65535 = y % 65536 := by
  obtain ⟨k, rfl⟩ : ∃ k : Nat, y = k := ⟨y.toNat, by omega⟩
  have e := u32_and_nat k 65535 (by omega) (by decide)
  have e2 : k &&& 65535 = k % 65536 := Nat.and_two_pow_sub_one_eq_mod k 16
  rw [e2] at e
  rw [show (65535 : Int) = ((65535 : Nat) : Int) from rfl, e]
  omega
theorem tell_mul (x y : Int) {ds : List Int} (h : valD ds = x.natAbs * y.natAbs) : tellD (!decide (x < 0) == decide (y < 0)) ds = x * y := by
  unfold tellD
  rw [h]
  by_cases h1 : x < 0 <;> by_cases h2 : y < 0
  · rw [show ((x.natAbs : Nat) : Int) = -x by omega, show ((y.natAbs : Nat) : Int) = -y by omega, Int.neg_mul_neg]
    simp [h1, h2]
  · rw [show ((x.natAbs : Nat) : Int) = -x by omega, show ((y.natAbs : Nat) : Int) = y by omega, Int.neg_mul]
    simp [h1, h2]
  · rw [show ((x.natAbs : Nat) : Int) = x by omega, show ((y.natAbs : Nat) : Int) = -y by omega, Int.mul_neg]
    simp [h1, h2]
  · rw [show ((x.natAbs : Nat) : Int) = x by omega, show ((y.natAbs : Nat) : Int) = y by omega]
    simp [h1, h2]
/-- A slice of digits lies in no box of a wide number. -/
theorem wide_apart {w : World} {b : Nat} {x : Bool} {A' : Option Addr} {p q : Nat} {T : TypeId} {tag : Nat × Nat} {ad : Addr} {n c : Nat} {ds : List Int} {k : IntKind} (hg : w.heap[b]? = some (.cells #[.bool x, .slice A' p q] T tag)) (hr : Rds w 1 (some ad) n c (nums k ds)) (hn : 0 < n) : ¬ ad.block = b := by
  intro e
  have hl : 0 < ds.length := by rw [u32s_len hr]; exact hn
  have h := hr.cell ad rfl 0 _ (nums_get k ds 0 hl)
  have h0 : ad.add 0 = ad := by simp [Addr.add]
  rw [h0] at h
  unfold World.cell? at h
  rw [e, hg] at h
  simp only at h
  rcases hs : ad.spot with _ | s
  all_goals
    rw [hs] at h
    rcases ho : ad.off with _ | _ | o
    all_goals
      rw [ho] at h
      simp at h
theorem Rds.set_away {w : World} {b o : Nat} {v : Value} {sz n c : Nat} {A : Option Addr} {cs : List Value} (h : Rds w sz A n c cs) (ha : ∀ ad, A = some ad → 0 < n → ¬ ad.block = b) : Rds (w.setCell ⟨b, o, none⟩ v) sz A n c cs := by
  rcases Nat.eq_zero_or_pos n with h0 | h0
  · subst h0
    have hl := h.len
    rw [Nat.zero_mul] at hl
    obtain rfl := List.eq_nil_of_length_eq_zero hl
    exact ⟨h.len, h.le, h.max, h.nil, fun ad e j u hj => by simp at hj⟩
  · exact h.same (fun ad e => heap_setCell_other w ⟨b, o, none⟩ ad.block v (ha ad e h0))
/-- A wide number stored in its box and told. -/
theorem Wd.boxed {w : World} {b : Nat} {x : Bool} {A' : Option Addr} {p q : Nat} {T : TypeId} {tag : Nat × Nat} {s : Bool} {A : Option Addr} {n c N : Nat} {z : Int} (hg : w.heap[b]? = some (.cells #[.bool x, .slice A' p q] T tag)) (h : Wd w (.agg #[.bool s, .slice A n c]) z N) (o1 o2 : Nat) (v1 v2 : Value) :
    Wd ((w.setCell ⟨b, o1, none⟩ v1).setCell ⟨b, o2, none⟩ v2) (.agg #[.bool s, .slice A n c]) z N := by
  obtain ⟨A1, n1, c1, ds, he, hr, h1⟩ := h
  cases he
  have ha : ∀ ad, A = some ad → 0 < n → ¬ ad.block = b := fun ad e hn => by subst e; exact wide_apart hg hr hn
  exact ⟨_, _, _, ds, rfl, (hr.set_away ha).set_away ha, h1⟩
set_option maxRecDepth 100000 in
set_option maxHeartbeats 4000000 in
theorem dTimes (v u : Value) (x y : Int) (N M : Nat) (w : World) (hv : Wd w v x N) (hu : Wd w u y M) (hN : N ≤ 1000) (hM : M ≤ 1000) :
    Calls Try.prog 58 #[v, u] w fun e w' => (∃ r, e = .returned r ∧ Wd w' r (x * y) (N + M + 1)) ∧ Below w.heap.size w w' := by
  obtain ⟨A, n, c, a, rfl, hr, hd, ht, hva, hn⟩ := hv
  obtain ⟨B, m, d, b, rfl, hr2, hd2, ht2, hvb, hm⟩ := hu
  have HN := Lib.hid (u32s_len hr)
  have HM := Lib.hid (u32s_len hr2)
  have HV1 := Lib.hid hva
  have HV2 := Lib.hid hvb
  have HD1 := Lib.hid hd
  have HD2 := Lib.hid hd2
  clear ht ht2 hva hvb hd hd2
  have HSG : Hid (∀ ds, Dig ds → valD ds = valD a * valD b → tellD (!decide (x < 0) == decide (y < 0)) ds = x * y) := fun ds h1 h2 => tell_mul x y (by rw [h2, HV1.out, HV2.out])
  generalize decide (x < 0) = sx at *
  generalize decide (y < 0) = sy at *
  go_enter Try.func58, Try.ntmps58
  go_wp2_with (refine mkn (w0 := ((w.alloc (.cells #[.bool sx, .slice A n c] 76)).alloc (.cells #[.bool sy, .slice B m d] 76)).alloc (.cells #[.bool false, .slice none 0 0] 76)) (((w.alloc (.cells #[.bool sx, .slice A n c] 76)).alloc (.cells #[.bool sy, .slice B m d] 76)).alloc (.cells #[.bool false, .slice none 0 0] 76)).heap.size rfl _ _ 74 93 _ 1 4 rfl Try.underlying74 info_u32 .i64 .i64 _ _ (n + m + 1) (by rfl) (by rfl) (by go_num) (by go_num) (by omega) (by unfold maxLen; omega) (Below.refl _ _) (Nat.le_refl _) ?_; intro w2 ho2 hb2 hg2; have q0 : w2.cell? ⟨w.heap.size, 0, none⟩ = some (.bool sx) := (by rw [bcell hb2 _ _ (by simp <;> omega)]; go_simp); have q1 : w2.cell? ⟨w.heap.size, 1, none⟩ = some (.slice A n c) := (by rw [bcell hb2 _ _ (by simp <;> omega)]; go_simp); have q2 : w2.cell? ⟨w.heap.size + 1, 0, none⟩ = some (.bool sy) := (by rw [bcell hb2 _ _ (by simp <;> omega)]; go_simp); have q3 : w2.cell? ⟨w.heap.size + 1, 1, none⟩ = some (.slice B m d) := (by rw [bcell hb2 _ _ (by simp <;> omega)]; go_simp))
  have HL : Hid ((madeCells (Value.int .u32 0).cells ((n + m + 1) * 1)).toList = nums .u32 (List.replicate (n + m + 1) 0)) := by
    show _ = _
    rw [Nat.mul_one, show (Value.int .u32 0).cells = #[.int .u32 0] from rfl, toList_madeCells_one]
    simp [nums]
  rw [HL.out, show (((w.alloc (.cells #[.bool sx, .slice A n c] 76)).alloc (.cells #[.bool sy, .slice B m d] 76)).alloc (.cells #[.bool false, .slice none 0 0] 76)).heap.size = w.heap.size + 1 + 1 + 1 by simp] at ho2
  have hB := below_then (show Below w.heap.size w _ from below_al (below_al (below_al (Below.refl _ _) _) _) _) (below_al (below_al (below_al (Below.refl _ _) _) _) _).size hb2
  have e0 : Box w2 (w.heap.size + 1 + 1) 0 (.bool false) := by
    constructor
    · rw [bcell hb2 _ _ (by simp <;> omega)]; go_simp
    · rw [bfroz hb2 _ _ (by simp <;> omega)]; go_simp
  have e1 : Box w2 (w.heap.size + 1 + 1) 1 (.slice none 0 0) := by
    constructor
    · rw [bcell hb2 _ _ (by simp <;> omega)]; go_simp
    · rw [bfroz hb2 _ _ (by simp <;> omega)]; go_simp
  have hgw2 : w2.heap[w.heap.size + 1 + 1]? = some (.cells #[.bool false, .slice none 0 0] 76 (0, 0)) := by
    have h1 := heap_alloc_new ((w.alloc (.cells #[.bool sx, .slice A n c] 76)).alloc (.cells #[.bool sy, .slice B m d] 76)) (.cells #[.bool false, .slice none 0 0] 76)
    rw [show ((w.alloc (.cells #[.bool sx, .slice A n c] 76)).alloc (.cells #[.bool sy, .slice B m d] 76)).heap.size = w.heap.size + 1 + 1 by simp] at h1
    exact (hb2.block _ (by simp)).trans h1
  obtain ⟨b0, hb0⟩ : ∃ b, b = w.heap.size := ⟨_, rfl⟩
  obtain ⟨g, hg⟩ : ∃ g, g = w.heap.size + 1 + 1 + 1 := ⟨_, rfl⟩
  have HZ1 : Hid (Dig (List.replicate (n + m + 1) 0)) := by
    intro z hz
    rw [(List.mem_replicate.1 hz).2]; omega
  have HZ2 : Hid ((List.replicate (n + m + 1) (0 : Int)).length = n + m + 1) := by show _ = _; simp
  have HZ3 : Hid (valD (List.replicate (n + m + 1) 0) = valD (a.take 0) * valD b) := by
    show _ = _
    have h0 : ∀ k, valD (List.replicate k 0) = 0 := by
      intro k
      induction k with
      | zero => rfl
      | succ k ih => rw [List.replicate_succ, valD, ih]; rfl
    rw [h0, List.take_zero, valD, Int.zero_mul]
  have hB0 : w.heap.size ≤ (((w.alloc (.cells #[.bool sx, .slice A n c] 76)).alloc (.cells #[.bool sy, .slice B m d] 76)).alloc (.cells #[.bool false, .slice none 0 0] 76)).heap.size := (below_al (below_al (below_al (Below.refl _ _) _) _) _).size
  clear hg2
  go_loopw [23] (fun i wr => ∃ k : Nat, k ≤ n ∧ i = .int .i64 k ∧ ∃ ds : List Int, wr.ownsRow w.heap.size 93 1 (.slice (some ⟨w.heap.size + 1 + 1 + 1, 0, none⟩) (n + m + 1) (n + m + 1)) (n + m + 1) (nums .u32 ds) ∧ Hid (Dig ds) ∧ Hid (ds.length = n + m + 1) ∧ Hid (valD ds = valD (a.take k) * valD b) ∧ Chg (fun q => q = w.heap.size + 1 + 1 + 1) w2 wr) (fun i _ => n - (intOf i).toNat)
  case atStart => exact ⟨0, Nat.zero_le _, rfl, List.replicate (n + m + 1) 0, own_mono ho2 (by omega), HZ1.out, HZ2.out, HZ3.out, Chg.refl _ _⟩
  case round =>
    obtain ⟨k, hk, rfl, ds, ho, HD, HLn, HV, hch⟩ := hrel
    obtain ⟨W4, rfl⟩ : ∃ W, W = wr := ⟨_, rfl⟩
    have r1 := hch.cell q1 (by show ¬ (w.heap.size = w.heap.size + 1 + 1 + 1); omega)
    have r3 := hch.cell q3 (by show ¬ (w.heap.size + 1 = w.heap.size + 1 + 1 + 1); omega)
    by_cases hlt : k < n
    · have hkx : k < a.length := by rw [HN.out]; exact hlt
      obtain ⟨ad, rfl⟩ := hr.some_ (by omega)
      have hba : ad.block < w.heap.size := World.block_lt_of_cell? w _ (hr.cell ad rfl 0 _ (List.getElem?_eq_getElem (show 0 < (nums .u32 a).length by rw [hr.len]; omega)))
      have hra := hch.rds (hr.below hB) (fun ad' e => by cases e; show ¬ (ad.block = w.heap.size + 1 + 1 + 1); omega)
      have hcx := hra.cell ad rfl k _ (nums_get .u32 a k hkx)
      rw [show a[k] = a.getD k 0 by simp [List.getD_eq_getElem?_getD, hkx]] at hcx
      obtain ⟨xa, hxa⟩ : ∃ xa, xa = a.getD k 0 := ⟨_, rfl⟩
      rw [← hxa] at hcx
      have HXA := Lib.hid hxa
      clear hxa
      go_wp2
      go_loopw [8, 9] (fun cv jv wr => ∃ (j : Nat) (c1 : Int) (es : List Int), cv = .int .u32 c1 ∧ jv = .int .i64 j ∧ Hid (Row a b k j es c1) ∧ 0 ≤ c1 ∧ c1 < 65536 ∧ j ≤ m + 1 ∧ wr.ownsRow w.heap.size 93 1 (.slice (some ⟨w.heap.size + 1 + 1 + 1, 0, none⟩) (n + m + 1) (n + m + 1)) (n + m + 1) (nums .u32 es) ∧ Chg (fun q => q = w.heap.size + 1 + 1 + 1) w2 wr) (fun _ jv _ => m + 1 - (intOf jv).toNat)
      case atStart =>
        refine ⟨0, 0, ds, rfl, rfl, ?_, by omega, by omega, by omega, ho, hch⟩
        refine ⟨by rw [HLn.out, HN.out, HM.out], HD.out, by omega, by omega, ?_⟩
        rw [HV.out, List.take_zero]
        simp [valD]
      case round =>
        obtain ⟨j, c1, es, rfl, rfl, HRow, hc0, hc1, hj, ho5, hch5⟩ := hrel
        have s3 := hch5.cell q3 (by show ¬ (w.heap.size + 1 = w.heap.size + 1 + 1 + 1); omega)
        by_cases hjm : j < m
        · have hjy : j < b.length := by rw [HM.out]; exact hjm
          obtain ⟨bd, rfl⟩ := hr2.some_ (by omega)
          have hbb : bd.block < w.heap.size := World.block_lt_of_cell? w _ (hr2.cell bd rfl 0 _ (List.getElem?_eq_getElem (show 0 < (nums .u32 b).length by rw [hr2.len]; omega)))
          have hrb := hch5.rds (hr2.below hB) (fun ad' e => by cases e; show ¬ (bd.block = w.heap.size + 1 + 1 + 1); omega)
          have hcy := hrb.cell bd rfl j _ (nums_get .u32 b j hjy)
          rw [show b[j] = b.getD j 0 by simp [List.getD_eq_getElem?_getD, hjy]] at hcy
          obtain ⟨hp, _⟩ := HRow.out.at HD1.out HD2.out hkx (.inl hjy)
          obtain ⟨t0, t1, hstep⟩ := HRow.out.step HD1.out HD2.out hp (s := c1 + (es.getD (k + j) 0 + a.getD k 0 * b.getD j 0)) rfl
          have hdx := dig_getD HD1.out k
          have hdy := dig_getD HD2.out j
          have hde := dig_getD HRow.out.dig (k + j)
          have m0 : 0 * 0 ≤ a.getD k 0 * b.getD j 0 := Int.mul_le_mul (by omega) (by omega) (by omega) (by omega)
          have m1 : a.getD k 0 * b.getD j 0 ≤ 65535 * 65535 := Int.mul_le_mul (by omega) (by omega) (by omega) (by omega)
          have hce := ho5.cellAt (k + j) (by omega)
          have hfe := ho5.frozenAt (k + j)
          rw [← HXA.out] at t0 t1 hstep hdx m0 m1
          have hst := ho5.stored (k + j) (.int .u32 ((c1 + (es.getD (k + j) 0 + xa * b.getD j 0)) % 65536))
          rw [show (nums .u32 es).set (k + j) (.int .u32 ((c1 + (es.getD (k + j) 0 + xa * b.getD j 0)) % 65536)) = nums .u32 (es.set (k + j) ((c1 + (es.getD (k + j) 0 + xa * b.getD j 0)) % 65536)) by simp [nums, List.map_set]] at hst
          have hst1 := hst.1
          have HST := Lib.hid hstep
          rw [show (nums .u32 es)[k + j]? = some (.int .u32 (es.getD (k + j) 0)) by rw [nums_get .u32 es (k + j) hp]; simp [List.getD_eq_getElem?_getD, hp]] at hce
          clear hst hstep hp
          generalize es.getD (k + j) 0 = de at *
          generalize b.getD j 0 = yb at *
          obtain ⟨pr, hpr⟩ : ∃ pr, pr = xa * yb := ⟨_, rfl⟩
          rw [← hpr] at t0 t1 m0 m1 hst1
          have ha32 : bits BinOp.and IntKind.u32 (c1 + (de + xa * yb)) 65535 = (c1 + (de + xa * yb)) % 65536 := by rw [← hpr]; exact and32 _ t0 t1
          go_wp2
          rw [hpr] at hst1 t0 t1
          go_roundw
          case rel => exact ⟨j + 1, _, _, rfl, by go_num, HST.out, by omega, by omega, by omega, hst1, hch5.setCell _ _ _ rfl⟩
          case measure => simp [intOf]; omega
        · have hjy : ¬ j < b.length := by rw [HM.out]; exact hjm
          by_cases hcp : 0 < c1
          · obtain ⟨hp, hjb⟩ := HRow.out.at HD1.out HD2.out hkx (.inr hcp)
            obtain ⟨t0, t1, hstep⟩ := HRow.out.step HD1.out HD2.out hp (s := c1 + (es.getD (k + j) 0 + a.getD k 0 * b.getD j 0)) rfl
            have hde := dig_getD HRow.out.dig (k + j)
            rw [show b.getD j 0 = 0 by simp [List.getD_eq_getElem?_getD, Nat.le_of_not_lt hjy], Int.mul_zero, Int.add_zero] at t0 t1 hstep
            have hce := ho5.cellAt (k + j) (by omega)
            have hfe := ho5.frozenAt (k + j)
            have hst := ho5.stored (k + j) (.int .u32 ((c1 + es.getD (k + j) 0) % 65536))
            rw [show (nums .u32 es).set (k + j) (.int .u32 ((c1 + es.getD (k + j) 0) % 65536)) = nums .u32 (es.set (k + j) ((c1 + es.getD (k + j) 0) % 65536)) by simp [nums, List.map_set]] at hst
            have hst1 := hst.1
            have HST := Lib.hid hstep
            rw [show (nums .u32 es)[k + j]? = some (.int .u32 (es.getD (k + j) 0)) by rw [nums_get .u32 es (k + j) hp]; simp [List.getD_eq_getElem?_getD, hp]] at hce
            have hjm2 : j ≤ m := by have := HM.out; omega
            clear hst hstep hp hjy hjb
            generalize es.getD (k + j) 0 = de at *
            have ha32 : bits BinOp.and IntKind.u32 (c1 + de) 65535 = (c1 + de) % 65536 := and32 _ t0 t1
            go_wp2
            go_roundw
            case rel => exact ⟨j + 1, _, _, rfl, by go_num, HST.out, by omega, by omega, by omega, hst1, hch5.setCell _ _ _ rfl⟩
            case measure => simp [intOf]; omega
          · obtain rfl : c1 = 0 := by omega
            have hv := HRow.out.val
            rw [List.take_of_length_le (l := b) (by omega), Int.mul_zero, Int.add_zero, ← Int.add_mul, ← take_valD hkx] at hv
            have HVE := Lib.hid hv
            clear hv
            go_wp2
            go_roundw
            case rel => exact ⟨k + 1, by omega, by go_num, es, ho5, HRow.out.dig, HRow.out.len.trans (by rw [HN.out, HM.out]), HVE.out, hch5⟩
            case measure => simp [intOf]; omega
    · obtain rfl : k = n := by omega
      have q0' := hch.cell q0 (by show ¬ (w.heap.size = w.heap.size + 1 + 1 + 1); omega)
      have q2' := hch.cell q2 (by show ¬ (w.heap.size + 1 = w.heap.size + 1 + 1 + 1); omega)
      have hrow := (own_rds' ho).2
      have HT := Lib.hid (fun W h => dtrim (!sx == sy) (some ⟨w.heap.size + 1 + 1 + 1, 0, none⟩) (k + m + 1) (k + m + 1) ds W h HD.out)
      have hvf := HV.out
      rw [List.take_of_length_le (l := a) (by rw [HN.out]; exact Nat.le_refl _)] at hvf
      have HVF := Lib.hid hvf
      clear hvf
      go_wp2_with (go_at_call 62; (with_reducible refine (HT.out _ hrow).mono ?_); rintro e w5 ⟨⟨v5, rfl, A5, n5, c5, ds5, rfl, hr5, hd5, ht5, hv5, hn5⟩, hb5⟩; have e0' := (e0.keep hch (by omega)).below hb5; have e1' := (e1.keep hch (by omega)).below hb5; have c0 := e0'.cell; have f0 := e0'.free; have c1 := e1'.cell; have f1 := e1'.free)
      have hgw5 := (hb5.block _ (by have := e0'.lt; have := (e0.keep hch (by omega)).lt; omega)).trans ((hch.block _ e0.lt (by show ¬ (w.heap.size + 1 + 1 = w.heap.size + 1 + 1 + 1); omega)).trans hgw2)
      have hval := HSG.out ds HD.out HVF.out
      have hbe := fun u1 u2 => below_set (below_set (below_then (hch.toBelow hB hB.size (fun q e => by rw [e]; omega)) (Nat.le_trans hB.size hch.size) hb5) (w.heap.size + 1 + 1) 0 u1 (by omega)) (w.heap.size + 1 + 1) 1 u2 (by omega)
      have hwd : Wd w5 (.agg #[.bool (decide (tellD (!sx == sy) ds < 0)), .slice A5 n5 c5]) (x * y) (N + M + 1) := ⟨A5, n5, c5, ds5, by rw [hval], hr5, hd5, ht5, by rw [hv5, hval], by omega⟩
      have hwb := hwd.boxed hgw5 0 1
      refine bodyPost_ret (ret_wide rfl hgw5 _ _ (by rfl)) rfl ?_
      exact ⟨⟨_, rfl, hwb _ _⟩, hbe _ _⟩
end Go.Proofs.Ytabdipfpfbdghaa
