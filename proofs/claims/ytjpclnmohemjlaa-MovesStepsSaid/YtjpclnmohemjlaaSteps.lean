/- The law MovesSteps. -/
import Derived.Test.YtjpclnmohemjlaaLeastLaw
namespace Go.Proofs.Ytjpclnmohemjlaa
open Go.RowKit
set_option maxRecDepth 100000 in
set_option maxHeartbeats 8000000 in
theorem lfar (A : Option Addr) (m c : Nat) (os : List Int) (B : Option Addr) (n d : Nat) (ts : List Int) (w : World) (hr : Rds w 1 A m c (nums .i64 os)) (hr2 : Rds w 1 B n d (nums .i64 ts)) (hti : ∀ t ∈ ts, I64 t) (hR : Right9 os ts) (hE : enoughB os.length ts = true) :
    Calls Try.prog 22 #[.slice A m c, .slice B n d] w fun e w' => e = .returned (.int .i64 (farV os ts)) ∧ Below w.heap.size w w' := by
  have H2 := Lib.hid (mneed A m c os B n d ts w hr hr2 hti)
  have hml := moreL_bd (n := ts.length) hR.good.len hR.pos
  have hle := enough_le hE hR.pos
  have hll := lackL_bd (os := os) (n := ts.length) (fun t ht => ⟨hR.pos t ht, Int.le_trans (hle t ht) (by have := hR.good.len; omega)⟩)
  have hfar : farV os ts = sumI (needV os ts).1 + sumI (needV os ts).2 := by rw [plan_need hR]; rfl
  have hl64 : (needV os ts).1.length ≤ 64 := by
    rw [plan_need hR]
    simp only [moreL, List.length_zipWith, cntL_length, Nat.min_self]
    have := hR.good.n1
    omega
  have hnl := need_len os ts
  have e1 : (needV os ts).1 = moreL (cntL os ts.length) ts := by rw [plan_need hR]
  have e2 : (needV os ts).2 = lackL (cntL os ts.length) ts := by rw [plan_need hR]
  rw [← e1] at hml
  rw [← e2] at hll
  clear e1 e2 hle hR hE
  unfold Needs at H2
  generalize farV os ts = fv at hfar
  generalize (needV os ts).1 = more at H2 hml hnl hl64 hfar
  generalize (needV os ts).2 = lack at H2 hll hnl hfar
  have HF := Lib.hid hfar
  have HMLB := Lib.hid hml
  have HLLB := Lib.hid hll
  have HNL := Lib.hid hnl
  clear hfar hml hll hnl
  go_enter Try.func22, Try.ntmps22
  go_wp2_with fail
  refine H2.out.mono ?_
  rintro e5 w5 ⟨⟨v5, u5, rfl, hn5, hn5', -⟩, hb5⟩
  obtain ⟨A5, m5, c5, rfl, hm5, r5⟩ := own_open hn5
  obtain ⟨A6, m6, c6, rfl, hm6, r6⟩ := own_open hn5'
  have hm56 : m6 = m5 := by rw [hm6.out, hm5.out]; exact HNL.out
  subst hm56
  have hm5l : m6 ≤ 64 := by rw [hm5.out]; exact hl64
  clear hn5 hn5'
  go_wp2
  go_loopw [7, 17] (fun a i wr => ∃ (k : Nat) (s : Int), k ≤ m6 ∧ i = .int .i64 k ∧ a = .int .i64 s ∧ Below w5.heap.size w5 wr ∧ 0 ≤ s ∧ s ≤ 128 * (k : Int) ∧ Hid (s = sum2 more lack k)) (fun _ i _ => m6 - (intOf i).toNat)
  case atStart => exact ⟨0, 0, Nat.zero_le _, rfl, rfl, Below.refl _ _, Int.le_refl _, by omega, rfl⟩
  case round =>
    obtain ⟨k, s, hk, rfl, rfl, hb, hs0, hs1, HS⟩ := hrel
    by_cases hlt : k < m6
    · have hkx : k < more.length := by rw [← hm5.out]; exact hlt
      have hky : k < lack.length := by rw [HNL.out]; exact hkx
      obtain ⟨ad5, rfl⟩ := r5.some_ (by omega)
      obtain ⟨ad6, rfl⟩ := r6.some_ (by omega)
      have hg1 : more[k]? = some more[k] := List.getElem?_eq_getElem hkx
      have hg2 : lack[k]? = some lack[k] := List.getElem?_eq_getElem hky
      obtain ⟨k1, k2⟩ := HMLB.out more[k] (List.getElem_mem hkx)
      obtain ⟨k3, k4⟩ := HLLB.out lack[k] (List.getElem_mem hky)
      have hc5 := (r5.below hb).cell ad5 rfl k _ (nums_get .i64 more k hkx)
      have hc6 := (r6.below hb).cell ad6 rfl k _ (nums_get .i64 lack k hky)
      generalize more[k] = x at hg1 k1 k2 hc5
      generalize lack[k] = y at hg2 k3 k4 hc6
      have HX := Lib.hid (sum2_succ more lack k x y hg1 hg2)
      have hi1 : (k : Int) < (m6 : Int) := by omega
      have hw1 : IntKind.i64.wrap (x + y) = x + y := IntWalk.i64_in _ (by omega)
      have hw2 : IntKind.i64.wrap (s + (x + y)) = s + (x + y) := IntWalk.i64_in _ (by omega)
      clear hg1 hg2
      go_wp2
      go_quiet (fail)
      go_wp2
      go_roundw
      case rel => exact ⟨k + 1, s + (x + y), by omega, by go_num, rfl, below_dr hb _, by omega, by omega, by show _ = _; rw [HX.out, ← HS.out]⟩
      case measure => simp [intOf]; omega
    · have hkm : k = m6 := by omega
      subst hkm
      have hsf : s = fv := by rw [HF.out, HS.out]; exact sum2_all _ _ _ (by rw [hm5.out]; exact Nat.le_refl _) (by rw [HNL.out, hm5.out]; exact Nat.le_refl _)
      have HSF := Lib.hid hsf
      clear hsf
      go_wp2
      go_ret
      exact ⟨ret_int HSF.out, below_then hb5 hb5.size hb⟩
theorem rds_one {w : World} {ad : Addr} {n c : Nat} {l : List Mv} (h : Rds w 3 (some ad) n c (mvs l)) (i : Nat) (m : Mv) (hi : l[i]? = some m) (hin : i < n) : Rds w 3 (some (ad.add (i * 3))) 1 (c - i) (mvs [m]) := by
  have h1 := h.le
  have h2 := h.max
  refine ⟨rfl, by omega, by omega, (fun e => by cases e), fun ad' e j u hj => ?_⟩
  cases e
  rw [mvs_one] at hj
  exact mv_cells h i m hi j u hj
set_option maxRecDepth 100000 in
set_option maxHeartbeats 8000000 in
theorem stepsLaw (A : Option Addr) (m c : Nat) (os : List Int) (B : Option Addr) (n d : Nat) (ts : List Int) (C : Option Addr) (p e : Nat) (ps : List Int) (w : World) (hr : Rds w 1 A m c (nums .i64 os)) (hr2 : Rds w 1 B n d (nums .i64 ts)) (hr3 : Rds w 1 C p e (nums .u8 ps)) (hti : ∀ t ∈ ts, I64 t) (hps : ∀ x ∈ ps, 0 ≤ x ∧ x ≤ 255) :
    Calls Try.prog 7 #[.slice A m c, .slice B n d, .slice C p e] w fun e w' => e = .returned (.bool true) ∧ Below w.heap.size w w' := by
  have hmax : m ≤ 9223372036854775807 := by have := hr.le; have := hr.max; unfold maxLen at this; omega
  have hmax2 : n ≤ 9223372036854775807 := by have := hr2.le; have := hr2.max; unfold maxLen at this; omega
  have hmax3 : p ≤ 9223372036854775807 := by have := hr3.le; have := hr3.max; unfold maxLen at this; omega
  have HN := Lib.hid (nums_inj_len hr)
  have HM := Lib.hid (nums_inj_len hr2)
  have HP := Lib.hid (nums_inj_len hr3)
  by_cases h1 : 20 < (n : Int)
  · go_enter Try.func7, Try.ntmps7
    go_wp2_with (go_at_call 8; refine (lives09 _).mono ?_; rintro e w2 ⟨rfl, hb2⟩)
    go_ret
    exact ⟨rfl, hb2⟩
  · by_cases h2 : 20 < (m : Int)
    · go_enter Try.func7, Try.ntmps7
      go_wp2_with (go_at_call 8; refine (lives09 _).mono ?_; rintro e w2 ⟨rfl, hb2⟩)
      go_ret
      exact ⟨rfl, hb2⟩
    · by_cases h3 : 30 < (p : Int)
      · go_enter Try.func7, Try.ntmps7
        go_wp2_with (go_at_call 8; refine (lives09 _).mono ?_; rintro e w2 ⟨rfl, hb2⟩)
        go_ret
        exact ⟨rfl, hb2⟩
      · have HG := Lib.hid (rgood A m c os n w hr)
        cases hg : goodB os n with
        | false =>
          rw [hg] at HG
          clear hg
          go_enter Try.func7, Try.ntmps7
          go_wp2_with (first | (go_at_call 12; refine HG.out.mono ?_; rintro e w1 ⟨rfl, rfl⟩) | (go_at_call 8; refine (lives09 _).mono ?_; rintro e w2 ⟨rfl, hb2⟩))
          go_ret
          exact ⟨rfl, hb2⟩
        | true =>
          rw [hg] at HG
          have HG9 := Lib.hid (goodB_iff.1 hg)
          clear hg
          have HPS := Lib.hid hps
          clear hps
          go_enter Try.func7, Try.ntmps7
          go_wp2_with (go_at_call 12; refine HG.out.mono ?_; rintro e w1 ⟨rfl, rfl⟩)
          go_loop [7, 38] (fun a i => ∃ (k : Nat) (s : Int), k ≤ n ∧ i = .int .i64 k ∧ a = .int .i64 s ∧ 0 ≤ s ∧ s ≤ (m : Int) ∧ Hid (enoughB ((m : Int) - s) (ts.drop k) = enoughB m ts) ∧ Hid (∀ t ∈ ts.take k, 0 ≤ t)) (fun _ i => n - (intOf i).toNat)
          case atStart => exact ⟨0, 0, Nat.zero_le _, rfl, rfl, by omega, by omega, by show _ = _; simp, fun t ht => by simp at ht⟩
          case round =>
            obtain ⟨k, s, hk, rfl, rfl, hs1, hs2, HE, HPO⟩ := hrel
            by_cases hlt : k < n
            · have hkt : k < ts.length := by rw [HM.out]; exact hlt
              obtain ⟨bd, rfl⟩ := hr2.some_ (by omega)
              have hcell := hr2.cell bd rfl k _ (nums_get .i64 ts k hkt)
              have hh := HE.out
              rw [List.drop_eq_getElem_cons hkt] at hh
              have htk : ts.take (k + 1) = ts.take k ++ [ts[k]] := List.take_succ_eq_append_getElem hkt
              generalize ts[k] = t at hcell hh htk
              have HTK := Lib.hid htk
              clear htk
              simp only [enoughB] at hh
              have hws : IntKind.i64.wrap ((m : Int) - s) = (m : Int) - s := IntWalk.i64_in _ (by omega)
              by_cases ht0 : t < 0
              · clear hh
                go_wp2_with (go_at_call 8; refine (lives09 _).mono ?_; rintro e w2 ⟨rfl, hb2⟩)
                go_ret
                exact ⟨rfl, hb2⟩
              · by_cases hq : (m : Int) - s < t
                · clear hh
                  go_wp2_with (go_at_call 8; refine (lives09 _).mono ?_; rintro e w2 ⟨rfl, hb2⟩)
                  go_ret
                  exact ⟨rfl, hb2⟩
                · rw [if_neg hq, show (m : Int) - s - t = m - (s + t) by omega] at hh
                  have HH := Lib.hid hh
                  clear hh
                  go_wp2
                  go_round
                  case rel =>
                    refine ⟨k + 1, s + t, by omega, by go_num, by go_num, by omega, by omega, HH, ?_⟩
                    show ∀ x ∈ _, _
                    rw [HTK.out]
                    intro x hx
                    simp only [List.mem_append, List.mem_singleton] at hx
                    rcases hx with hx | rfl
                    · exact HPO.out x hx
                    · omega
                  case measure => simp [intOf]; omega
            · have he : enoughB m ts = true := by
                rw [← HE.out, List.drop_of_length_le (by rw [HM.out]; omega)]
                rfl
              have hpos : ∀ t ∈ ts, 0 ≤ t := by
                have := HPO.out
                rw [List.take_of_length_le (by rw [HM.out]; omega)] at this
                exact this
              have hR : Right9 os ts := ⟨by rw [HM.out]; exact HG9.out, hpos⟩
              have HEN := Lib.hid he
              have hm100 : m ≤ 100000 := by omega
              clear he hpos HE HPO
              have hal : Below w.heap.size w (w.alloc (.cells #[] 3)) := below_al (Below.refl _ _) _
              have hown : (w.alloc (.cells #[] 3)).ownsRow w.heap.size 3 1 (.slice (some ⟨w.heap.size, 0, none⟩) 0 0) 0 [] := World.ownsRow_lit w #[] 0 (Nat.le_refl _) (Nat.zero_le _) rfl
              have HRR := Lib.hid hR
              clear hR
              go_wp2_with (at_builtin; refine apn (w0 := w) w.heap.size rfl _ _ 22 3 _ 1 8 (by rfl) Try.underlying22 info_int rfl (by decide) (by decide) _ 0 [] A m c _ (by rfl) (by rfl) (hr.below hal) (nums_one _ _) hown hal hal.size (by omega) ?_; intro v w1 hv0 hb1 h3 h4)
              have hv : w1.ownsRow w.heap.size 3 1 v m (nums .i64 os) := by simpa using hv0
              obtain ⟨VA, vc, rfl⟩ := own_slice hv
              have hvr := (own_rds' hv).2
              clear hv0 hal hown h3 h4 hv
              go_loopw [10, 62] (fun o i wr => ∃ (k : Nat) (D : Option Addr) (dc : Nat) (cur : List Int), k ≤ p ∧ i = .int .i64 k ∧ o = .slice D m dc ∧ Below w.heap.size w wr ∧ Rds wr 1 D m dc (nums .i64 cur) ∧ Hid (Right9 cur ts)) (fun _ i _ => p - (intOf i).toNat)
              case atStart => exact ⟨0, VA, vc, os, Nat.zero_le _, rfl, rfl, hb1, hvr, HRR⟩
              case round =>
                obtain ⟨k, D, dc, cur, hk, rfl, rfl, hb, hcr, HC⟩ := hrel
                clear hvr hb1 HRR
                by_cases hlt2 : k < p
                · have hkx : k < ps.length := by rw [HP.out]; exact hlt2
                  obtain ⟨cd, rfl⟩ := hr3.some_ (by omega)
                  have hcp := (hr3.below hb).cell cd rfl k _ (nums_get .u8 ps k hkx)
                  obtain ⟨x1, x2⟩ := HPS.out ps[k] (List.getElem_mem hkx)
                  generalize ps[k] = x at hcp x1 x2
                  obtain ⟨x, rfl⟩ : ∃ y : Nat, x = y := ⟨x.toNat, by omega⟩
                  have hcl : cur.length = m := nums_inj_len hcr
                  have hEn : enoughB cur.length ts = true := by rw [hcl]; exact HEN.out
                  have hpl8 := planV_length cur ts
                  have hfz := far_zero HC.out hEn
                  have hst := step_good HC.out hEn
                  have HPL := Lib.hid (fun W h h2 => mplan D m dc cur B n d ts W h h2 hti)
                  have HFA := Lib.hid (fun W h h2 => lfar D m dc cur B n d ts W h h2 hti HC.out hEn)
                  generalize planV cur ts = l at hpl8 hfz hst HPL
                  have HFZ := Lib.hid hfz
                  have HST := Lib.hid hst
                  clear hfz hst hEn
                  go_wp2_with fail
                  refine (HPL.out _ hcr (hr2.below hb)).mono ?_
                  rintro e1 w1 ⟨⟨v1, rfl, hn1⟩, hb1⟩
                  obtain ⟨A1, m1, c1, rfl, hm1, r1⟩ := own_open hn1
                  have hm1l : m1 ≤ 8192 := by rw [hm1.out]; exact hpl8
                  have hB1 := below_then hb hb.size hb1
                  clear hn1
                  go_wp2_with fail
                  refine (HFA.out _ (hcr.below hb1) (hr2.below hB1)).mono ?_
                  rintro e2 w2 ⟨rfl, hb2⟩
                  have hB2 := below_tr hB1 hb2
                  have r1 := r1.below hb2
                  have hcr2 := hcr.below (below_then hb1 hb1.size hb2)
                  rcases Nat.eq_zero_or_pos m1 with h0 | h0
                  · have hl0 : l = [] := List.eq_nil_of_length_eq_zero (by rw [← hm1.out]; exact h0)
                    have hf0 := HFZ.out hl0
                    rw [hf0]
                    subst h0
                    go_wp2_with (go_at_call 8; refine (lives09 _).mono ?_; rintro e w3 ⟨rfl, hb3⟩)
                    go_ret
                    exact ⟨rfl, below_tr hB2 hb3⟩
                  · have hz : ((m1 : Int) == 0) = false := by simp; omega
                    obtain ⟨ad1, rfl⟩ := r1.some_ h0
                    generalize hff : farV cur ts = fv
                    have HFF := Lib.hid hff
                    clear hff
                    obtain ⟨i, hmod⟩ : ∃ i : Nat, (x : Int) % (m1 : Int) = i := ⟨x % m1, by omega⟩
                    have hi : i < m1 := by have := Int.emod_lt_of_pos (x : Int) (show (0 : Int) < (m1 : Int) by omega); omega
                    have hi1 : (i : Int) ≤ (m1 : Int) := by omega
                    have hc1 : (m1 : Int) ≤ (c1 : Int) := by have := r1.le; omega
                    have hil : i < l.length := by rw [← hm1.out]; exact hi
                    have hgi : l[i]? = some l[i] := List.getElem?_eq_getElem hil
                    obtain ⟨t1, t2⟩ := HST.out l[i] (List.getElem_mem hil)
                    have ro := rds_one r1 i _ hgi hi
                    generalize l[i] = mv at t1 t2 ro
                    rw [HFF.out] at t2
                    have t3 : enoughB (applyM cur mv).length ts = true := by rw [applyM_length, hcl]; exact HEN.out
                    have HT1 := Lib.hid t1
                    have HFB := Lib.hid (fun W A c h h2 => lfar A m c (applyM cur mv) B n d ts W h h2 hti t1 t3)
                    generalize farV (applyM cur mv) ts = f2 at t2 HFB
                    have hge : ¬ fv ≤ f2 := by omega
                    clear t1 t3 hgi
                    go_wp2_with fail
                    refine (mapply D m dc cur _ 1 _ [mv] w2 hcr2 ro (by omega)).mono ?_
                    rintro e5 w5 ⟨⟨v5, rfl, hn5⟩, hb5⟩
                    obtain ⟨A5, c5, rfl⟩ := own_slice hn5
                    have hr5 : Rds w5 1 A5 m c5 (nums .i64 (applyM cur mv)) := (own_rds' hn5).2
                    have hB5 := below_tr hB2 hb5
                    clear hn5
                    go_wp2_with fail
                    refine (HFB.out _ A5 c5 hr5 (hr2.below hB5)).mono ?_
                    rintro e6 w6 ⟨rfl, hb6⟩
                    go_wp2
                    go_roundw
                    case rel => exact ⟨k + 1, A5, c5, applyM cur mv, by omega, by go_num, rfl, below_tr hB5 hb6, hr5.below hb6, HT1⟩
                    case measure => simp [intOf]; omega
                · go_wp2_with (go_at_call 8; refine (lives09 _).mono ?_; rintro e w3 ⟨rfl, hb3⟩)
                  go_ret
                  exact ⟨rfl, below_tr hb hb3⟩
end Go.Proofs.Ytjpclnmohemjlaa
