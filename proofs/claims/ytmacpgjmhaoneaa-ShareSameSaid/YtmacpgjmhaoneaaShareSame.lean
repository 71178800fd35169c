/- The law ShareSame, walked. -/
import Derived.Test.YtmacpgjmhaoneaaShareLives
import Derived.Test.YtmacpgjmhaoneaaShareSamePlain
namespace Go.Proofs.Ytmacpgjmhaoneaa
open Go.RowKit
set_option maxRecDepth 100000 in
set_option maxHeartbeats 4000000 in
theorem same_lives (cores : Int) (A : Option Addr) (n c : Nat) (l : List Cl) (k : Int) (w : World) (hr : Rds w 2 A n c (cls l)) (h : 63 < n ∨ cores < 0 ∨ 64 < cores ∨ goodC l = false) :
    Calls Try.prog 6 #[.int .i64 cores, .slice A n c, .int .u8 k] w fun e w' => e = .returned (.bool true) ∧ Below w.heap.size w w' := by
  have HG := Lib.hid (good08 A n c l w hr)
  have H : Hid (63 < n ∨ cores < 0 ∨ 64 < cores ∨ goodC l = false) := h
  generalize goodC l = g at *
  clear h hr
  by_cases h1 : 63 < (n : Int)
  · go_enter Try.func6, Try.ntmps6
    go_wp2_with (go_at_call 8; refine (lives08 _).mono ?_; rintro e w1 ⟨rfl, hb1⟩)
    go_ret
    exact ⟨rfl, hb1⟩
  · by_cases h2 : cores < 0
    · go_enter Try.func6, Try.ntmps6
      go_wp2_with (go_at_call 8; refine (lives08 _).mono ?_; rintro e w1 ⟨rfl, hb1⟩)
      go_ret
      exact ⟨rfl, hb1⟩
    · by_cases h3 : 64 < cores
      · go_enter Try.func6, Try.ntmps6
        go_wp2_with (go_at_call 8; refine (lives08 _).mono ?_; rintro e w1 ⟨rfl, hb1⟩)
        go_ret
        exact ⟨rfl, hb1⟩
      · have hg : g = false := by rcases H.out with h | h | h | h <;> first | exact h | (exfalso; omega)
        subst hg
        go_enter Try.func6, Try.ntmps6
        go_wp2_with (first | (go_at_call 13; (with_reducible refine HG.out.mono ?_); rintro e w1 ⟨rfl, hb1⟩) | (go_at_call 8; refine (lives08 _).mono ?_; rintro e w2 ⟨rfl, hb2⟩))
        go_ret
        exact ⟨rfl, below_tr hb1 hb2⟩
/-- So many weights made greater. -/
def scaledC (t : Int) (l : List Cl) (k : Nat) : List Cl := (l.take k).map (scaleC t) ++ l.drop k
theorem scaled_length (t : Int) (l : List Cl) (k : Nat) : (scaledC t l k).length = l.length := by simp [scaledC]; omega
theorem scaled_get {t : Int} {l : List Cl} {k : Nat} (h : k < l.length) : (scaledC t l k)[k]? = some (l.getD k default) := by
  unfold scaledC
  rw [List.getElem?_append_right (by simp; omega)]
  simp [List.getD_eq_getElem?_getD, h, Nat.min_eq_left (Nat.le_of_lt h)]
theorem scaled_succ {t : Int} {l : List Cl} {k : Nat} (h : k < l.length) : scaledC t l (k + 1) = (scaledC t l k).set k (scaleC t (l.getD k default)) := by
  apply List.ext_getElem?
  intro j
  have hl : ((l.take k).map (scaleC t)).length = k := by simp; omega
  have hl1 : ((l.take (k + 1)).map (scaleC t)).length = k + 1 := by simp; omega
  rw [List.getElem?_set]
  by_cases hj : k = j
  · subst hj
    rw [if_pos rfl, if_pos (by rw [scaled_length]; exact h)]
    unfold scaledC
    rw [List.getElem?_append_left (by omega)]
    simp [List.getD_eq_getElem?_getD, h]
  · rw [if_neg hj]
    unfold scaledC
    by_cases hjk : j < k
    · rw [List.getElem?_append_left (by omega), List.getElem?_append_left (by omega)]
      simp [hjk, show j < k + 1 by omega]
    · rw [List.getElem?_append_right (by omega), List.getElem?_append_right (by omega), hl, hl1, List.getElem?_drop, List.getElem?_drop]
      congr 1
      omega
theorem cls_set : ∀ (l : List Cl) (i : Nat) (q : Cl) (z : Int), l[i]? = some q → (cls l).set (i * 2) (.int .i64 z) = cls (l.set i ⟨z, q.demand⟩)
  | [], i, q, z, h => by simp at h
  | m :: l, 0, q, z, h => by simp at h; subst h; simp [cls, clC]
  | m :: l, i + 1, q, z, h => by
    have ih := cls_set l i q z (by simpa using h)
    simp only [cls, List.flatMap_cons, List.set_cons_succ] at ih ⊢
    rw [show (i + 1) * 2 = i * 2 + 1 + 1 by omega, ← ih]
    simp [clC]
theorem own_empty (w : World) (e : TypeId) (sz : Nat) : (w.alloc (.cells #[] e)).ownsRow w.heap.size e sz (.slice (some ⟨w.heap.size, 0, none⟩) 0 0) 0 [] := by
  refine ⟨by simp, .inr ⟨w.heap.size, 0, #[], rfl, Nat.le_refl _, heap_alloc_new w _, Nat.le_refl _, Nat.zero_le _, by simp, by simp⟩⟩
theorem cls_one (l : List Cl) : ∀ u ∈ cls l, u.oneCell' = true := by
  intro u hu
  unfold cls at hu
  obtain ⟨q, _, hq⟩ := List.mem_flatMap.1 hu
  simp only [clC, List.mem_cons, List.not_mem_nil, or_false] at hq
  rcases hq with rfl | rfl <;> rfl
theorem info_claim : (Try.prog.info? 30).map (fun i => (i.zero, i.size, i.bytes)) = some (some (.agg #[.int .i64 0, .int .i64 0]), 2, 16) := by kernel_rfl
set_option maxRecDepth 100000 in
set_option maxHeartbeats 4000000 in
theorem same_walk (cores : Int) (A : Option Addr) (n c : Nat) (l : List Cl) (k : Int) (w : World) (hr : Rds w 2 A n c (cls l)) (hn : n ≤ 63) (hc0 : 0 ≤ cores) (hc1 : cores ≤ 64) (hg : goodC l = true) (hk0 : 0 ≤ k) (hk1 : k ≤ 255) :
    Calls Try.prog 6 #[.int .i64 cores, .slice A n c, .int .u8 k] w fun e w' => e = .returned (.bool true) ∧ Below w.heap.size w w' := by
  have HG := Lib.hid (good08 A n c l w hr)
  rw [hg] at HG
  have hll := cls_len hr
  obtain ⟨g1, g2⟩ := goodC_iff.1 hg
  have hD := Lib.hid (fun W h => hdivideI A n c l cores 0 W h hg hc0 hc1 (by unfold I64; omega))
  have ha0 : ∀ n, atN 0 n = 0 := by intro n; unfold atN; simp
  rw [ha0] at hD
  have H1 := Lib.hid (cls_one l)
  obtain ⟨t, ht⟩ : ∃ t, t = 1 + k % 16 := ⟨_, rfl⟩
  have ht0 : 1 ≤ t := by omega
  have ht1 : t ≤ 16 := by omega
  have HT := Lib.hid ht
  have HS := Lib.hid (divide_same (n := t) (by omega) l cores.toNat)
  have HGL : Hid (∀ k, k ≤ n → (∀ i, i < k → (l.getD i default).weight ≤ 4096) → k = n → goodC (longC t l) = true) := by
    intro k _ hw hkn
    refine goodC_iff.2 ⟨by simp [longC]; omega, fun q hq => ?_⟩
    unfold longC at hq
    rcases List.mem_append.1 hq with hq | hq
    · obtain ⟨p, hp, rfl⟩ := List.mem_map.1 hq
      have hp2 := g2 p hp
      obtain ⟨i, hi, rfl⟩ := List.mem_iff_getElem.1 hp
      have := hw i (by omega)
      rw [show l.getD i default = l[i] by simp [List.getD_eq_getElem?_getD, hi]] at this
      have h1 : 1 * 1 ≤ l[i].weight * t := Int.mul_le_mul (by omega) (by omega) (by omega) (by omega)
      have h2 : l[i].weight * t ≤ 4096 * 16 := Int.mul_le_mul (by omega) (by omega) (by omega) (by omega)
      simp only [scaleC]
      omega
    · simp at hq
      subst hq
      simp
  have HW : Hid (∀ i, i < l.length → 1 ≤ (l.getD i default).weight) := fun i hi => (g2 _ (getDm hi)).1
  clear ht g1 g2 hg
  go_enter Try.func6, Try.ntmps6
  go_wp2_with (first | (go_at_call 13; (with_reducible refine HG.out.mono ?_); rintro e w1 ⟨rfl, hb1⟩) | (at_builtin; (refine apn (w0 := w) w.heap.size rfl _ _ 22 30 _ 2 16 (by rfl) Try.underlying22 info_claim rfl (by decide) (by decide) _ 0 [] A n c (cls l) (by rfl) (by rfl) (hr.below (below_al hb1 _)) H1.out (own_mono (own_empty w1 _ _) hb1.size) (below_al hb1 _) (below_al hb1 _).size (by omega) ?_); intro v2 w2 ho2 hb2 _ _))
  rw [← HT.out]
  clear HT H1 HG hb1
  rw [List.nil_append, Nat.zero_add] at ho2
  obtain ⟨A2, m2, c2, rfl, hm2, _⟩ := own_open ho2
  have hm2' := hm2.out
  subst hm2'
  have ho3 : w2.ownsRow w.heap.size 30 2 (.slice A2 m2 c2) m2 (cls (scaledC t l 0)) := by
    have : scaledC t l 0 = l := by simp [scaledC]
    rw [this]; exact ho2
  clear ho2
  go_wp2
  go_loopw [38] (fun i wr => ∃ k : Nat, k ≤ m2 ∧ i = .int .i64 k ∧ Hid (∀ i, i < k → (l.getD i default).weight ≤ 4096) ∧ Below w.heap.size w wr ∧ wr.ownsRow w.heap.size 30 2 (.slice A2 m2 c2) m2 (cls (scaledC t l k))) (fun i _ => m2 - (intOf i).toNat)
  case atStart => exact ⟨0, Nat.zero_le _, rfl, fun i hi => absurd hi (Nat.not_lt_zero i), hb2, ho3⟩
  case round =>
    obtain ⟨j, hj, rfl, HL, hbr, hor⟩ := hrel
    clear ho3 hb2
    by_cases hlt : j < m2
    · have hjl : j < l.length := by omega
      have hshape : ∃ g, A2 = some ⟨g, 0, none⟩ ∧ w.heap.size ≤ g := by
        rcases hor.2 with ⟨_, h⟩ | ⟨g, cap, cur, hv, hb, _⟩
        · omega
        · simp only [Value.slice.injEq] at hv
          exact ⟨g, hv.1, hb⟩
      obtain ⟨g, rfl, hgb⟩ := hshape
      have hcl := cls_get (scaledC t l j) j _ (scaled_get hjl) 0 (.int .i64 (l.getD j default).weight) rfl
      have hc := hor.cellAt (j * 2) (by omega)
      rw [show j * 2 = j * 2 + 0 from rfl, hcl] at hc
      rw [Nat.add_zero] at hc
      have hf := hor.frozenAt (j * 2)
      have hst := hor.stored (j * 2) (.int .i64 ((l.getD j default).weight * t))
      have hset := cls_set (scaledC t l j) j _ ((l.getD j default).weight * t) (scaled_get hjl)
      rw [show (⟨(l.getD j default).weight * t, (l.getD j default).demand⟩ : Cl) = scaleC t (l.getD j default) from rfl, ← scaled_succ hjl] at hset
      rw [hset] at hst
      have hbs := hbr.grown hst.2 hbr.size (fun k hk => by cases hk; exact hgb)
      have hst1 := hst.1
      have hw1 := HW.out j hjl
      have HL2 : Hid ((l.getD j default).weight ≤ 4096 → ∀ i, i < j + 1 → (l.getD i default).weight ≤ 4096) := by
        intro h i hi
        rcases Nat.lt_or_ge i j with h' | h'
        · exact HL.out i h'
        · obtain rfl : i = j := by omega
          exact h
      have hprod : (l.getD j default).weight ≤ 4096 → 0 ≤ (l.getD j default).weight * t ∧ (l.getD j default).weight * t ≤ 65536 := by
        intro h
        have h1 : 0 * 0 ≤ (l.getD j default).weight * t := Int.mul_le_mul (by omega) (by omega) (by omega) (by omega)
        have h2 : (l.getD j default).weight * t ≤ 4096 * 16 := Int.mul_le_mul (by omega) (by omega) (by omega) (by omega)
        omega
      clear hst hset hcl hor
      generalize (l.getD j default).weight = wj at *
      by_cases h4 : 4096 < wj
      · go_wp2_with (go_at_call 8; refine (lives08 _).mono ?_; rintro e w5 ⟨rfl, hb5⟩)
        go_ret
        exact ⟨rfl, below_tr hbr hb5⟩
      · obtain ⟨p0, p1⟩ := hprod (by omega)
        have hL2 := HL2.out (by omega)
        have HL3 := Lib.hid hL2
        clear hL2 HL2 HL
        go_wp2
        go_roundw
        case rel => exact ⟨j + 1, by omega, by go_num, HL3, hbs, hst1⟩
        case measure => simp [intOf]; omega
    · obtain rfl : j = m2 := by omega
      have hgl := HGL.out j (Nat.le_refl _) HL.out rfl
      have hsc : scaledC t l j = l.map (scaleC t) := by
        unfold scaledC
        rw [List.take_of_length_le (by omega), List.drop_of_length_le (by omega), List.append_nil]
      rw [hsc] at hor
      have HD2 := Lib.hid (fun A c W h => hdivideI A (j + 1) c (longC t l) cores 0 W h hgl hc0 hc1 (by unfold I64; omega))
      rw [ha0, HS.out] at HD2
      have hlen : (divideC cores.toNat l 0).length = l.length := by unfold divideC; rw [divC_length]; simp
      have HX := Lib.hid hlen
      have hlc : Hid (cls (l.map (scaleC t)) ++ [.int .i64 1, .int .i64 0] = cls (longC t l)) := by
        show _ = _
        unfold longC
        rw [cls_append]
        rfl
      have HI := Lib.hid (fun A c B d W h1 h2 => ints03 A j c (divideC cores.toNat l 0) B j d (divideC cores.toNat l 0) W h1 h2)
      rw [show decide (divideC cores.toNat l 0 = divideC cores.toNat l 0) = true by simp] at HI
      generalize divideC cores.toNat l 0 = xs at *
      have hll' := Lib.hid hll
      clear hgl hsc hlen HS HL HGL HW ha0 ht0 ht1 hll
      go_wp2_with (first | (go_at_call 10; (with_reducible refine (hD.out _ (hr.below hbr)).mono ?_); rintro e w5 ⟨⟨g5, rfl, ho5⟩, hb5⟩; have hx5 := (own_rds' ho5).2; have hor5 := own_below hor hb5; have hbw5 := below_tr hbr hb5; have hlt5 := own_base ho5 g5 rfl; clear ho5) | (at_builtin; (refine apk (w0 := w) w.heap.size rfl _ _ 22 30 _ 2 16 (by rfl) Try.underlying22 info_claim rfl (by decide) (by decide) _ j (cls (l.map (scaleC t))) [.int .i64 1, .int .i64 0] (by rfl) (by rfl) rfl (by intro u hu; simp at hu; rcases hu with rfl | rfl <;> rfl) hor5 hbw5 hbw5.size (by omega) ?_); intro v6 w6 ho6 hb6 hg6 _; rw [hlc.out] at ho6; obtain ⟨A6, m6, c6, rfl, hm6, hr6⟩ := own_open ho6; have hm6' := hm6.out; subst hm6'; clear ho6 hm6) | (go_at_call 10; (with_reducible refine (HD2.out _ _ _ hr6).mono ?_); rintro e w7 ⟨⟨g7, rfl, ho7⟩, hb7⟩; have hx7 := (own_rds' ho7).2; clear ho7; generalize (⟨g7, 0, none⟩ : Addr) = ya at hx7 ⊢))
      have hx7x := ((Chg.of_grown (S := fun q => (Value.slice A2 j c2).ownBlock = some q) hg6 (fun k e => e)).rds hx5 (fun ad e => by cases e; intro hS; have := (hor.lt g5 hS).2; omega)).below hb7
      have hxl : xs.length = j := by rw [HX.out, hll'.out]
      have hyt := hx7.take_ j (by omega)
      rw [show (nums .i64 (xs ++ [0])).take (j * 1) = nums .i64 xs by rw [nums_append, Nat.mul_one, ← hxl, ← nums_length .i64 xs, List.take_left]] at hyt
      have hq := int_read hx7 (i := j) (by simp; omega)
      rw [show (xs ++ [(0 : Int)]).getD j (0 : Int) = (0 : Int) by rw [← hxl]; exact app_last xs] at hq
      have hbw7 := below_tr hb6 hb7
      clear hx7 hx5 hor5 hor hg6 hr6 hb7 hb6
      go_wp2_with (first | (go_at_call 9; (with_reducible refine (HI.out _ _ _ _ _ hx7x hyt).mono ?_); rintro e w8 ⟨rfl, hb8⟩; have hq8 := cell_below hb8 hq) | (go_at_call 8; refine (lives08 _).mono ?_; rintro e w9 ⟨rfl, hb9⟩))
      go_ret
      exact ⟨rfl, below_tr hbw7 (below_tr hb8 hb9)⟩
end Go.Proofs.Ytmacpgjmhaoneaa
