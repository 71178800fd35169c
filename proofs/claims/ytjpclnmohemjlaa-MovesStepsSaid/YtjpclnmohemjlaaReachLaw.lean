/- The law MovesReach. -/
import Derived.Test.YtjpclnmohemjlaaReach
namespace Go.Proofs.Ytjpclnmohemjlaa
open Go.RowKit
theorem movesC_spec (os : List Int) : ∀ (cs ps : List Int), ∀ mv ∈ movesC os cs ps, mv.core ∈ cs ∧ mv.from_ = (os[mv.core.toNat]?).getD 0 ∧ mv.from_ ≠ mv.to
  | [], _, mv, h => by simp [movesC] at h
  | c :: cs, ps, mv, h => by
    simp only [movesC, List.mem_append] at h
    rcases h with h | h
    · split at h
      · simp at h
      · rename_i hne
        simp only [List.mem_singleton] at h
        subst h
        exact ⟨by simp, rfl, fun e => hne e.symm⟩
    · obtain ⟨h1, h2, h3⟩ := movesC_spec os cs ps.tail mv h
      exact ⟨by simp [h1], h2, h3⟩
theorem movesC_sub (os : List Int) : ∀ (cs ps : List Int), ((movesC os cs ps).map Mv.core).Sublist cs
  | [], _ => by simp [movesC]
  | c :: cs, ps => by
    simp only [movesC, List.map_append]
    split
    · simp only [List.map_nil, List.nil_append]
      exact (movesC_sub os cs ps.tail).cons c
    · simp only [List.map_cons, List.map_nil, List.singleton_append]
      exact (movesC_sub os cs ps.tail).cons_cons c
theorem plan_nodup {os ts : List Int} (hr : Right9 os ts) (he : enoughB os.length ts = true) : ((planV os ts).map Mv.core).Nodup := by
  rw [plan_eq hr he]
  exact (movesC_sub _ _ _).nodup (coresV_nodup _ _)
theorem plan_mem {os ts : List Int} (hr : Right9 os ts) (he : enoughB os.length ts = true) : ∀ mv ∈ planV os ts, ∃ j : Nat, mv.core = j ∧ os[j]? = some mv.from_ ∧ mv.from_ ≠ mv.to ∧ (mv.from_ = 0 ∨ ∃ (q : Nat) (k : Int), mv.from_ = (q : Int) + 1 ∧ (moreL (cntL os ts.length) ts)[q]? = some k ∧ 0 < k) := by
  intro mv h
  rw [plan_eq hr he] at h
  obtain ⟨h1, h2, h3⟩ := movesC_spec _ _ _ mv h
  rw [coresV_eq, List.mem_append] at h1
  rcases h1 with h1 | h1
  · obtain ⟨j, e, _, ho⟩ := freeC_mem _ _ _ h1
    rw [e, Int.toNat_natCast, ho] at h2
    exact ⟨j, e, by rw [ho, h2]; rfl, h3, .inl h2⟩
  · obtain ⟨j, q, e, _, _, ho, k, hk, hp⟩ := picks_mem _ _ _ _ h1
    rw [e, Int.toNat_natCast, ho] at h2
    exact ⟨j, e, by rw [ho, h2]; rfl, h3, .inr ⟨q, k, h2, by simpa using hk, hp⟩⟩
set_option maxRecDepth 100000 in
set_option maxHeartbeats 8000000 in
theorem reachLaw (A : Option Addr) (m c : Nat) (os : List Int) (B : Option Addr) (n d : Nat) (ts : List Int) (w : World) (hr : Rds w 1 A m c (nums .i64 os)) (hr2 : Rds w 1 B n d (nums .i64 ts)) (hti : ∀ t ∈ ts, I64 t) :
    Calls Try.prog 5 #[.slice A m c, .slice B n d] w fun e w' => e = .returned (.bool true) ∧ Below w.heap.size w w' := by
  have hmax2 : n ≤ 9223372036854775807 := by have := hr2.le; have := hr2.max; unfold maxLen at this; omega
  have HN := Lib.hid (nums_inj_len hr)
  have HM := Lib.hid (nums_inj_len hr2)
  by_cases h2 : 64 < (n : Int)
  · go_enter Try.func5, Try.ntmps5
    go_wp2_with (go_at_call 8; refine (lives09 _).mono ?_; rintro e w2 ⟨rfl, hb2⟩)
    go_ret
    exact ⟨rfl, hb2⟩
  · have HG := Lib.hid (rgood A m c os n w hr)
    cases hg : goodB os n with
    | false =>
      rw [hg] at HG
      clear hg
      go_enter Try.func5, Try.ntmps5
      go_wp2_with (first | (go_at_call 12; refine HG.out.mono ?_; rintro e w1 ⟨rfl, rfl⟩) | (go_at_call 8; refine (lives09 _).mono ?_; rintro e w2 ⟨rfl, hb2⟩))
      go_ret
      exact ⟨rfl, hb2⟩
    | true =>
      rw [hg] at HG
      have HG9 := Lib.hid (goodB_iff.1 hg)
      have hm64 : m ≤ 64 := by rw [← HN.out]; exact HG9.out.len
      clear hg
      go_enter Try.func5, Try.ntmps5
      go_wp2_with (go_at_call 12; refine HG.out.mono ?_; rintro e w1 ⟨rfl, rfl⟩)
      go_loop [5, 29] (fun a i => ∃ (k : Nat) (cc : Int), k ≤ n ∧ i = .int .i64 k ∧ a = .int .i64 cc ∧ 0 ≤ cc ∧ cc ≤ 64 ∧ Hid (enoughB cc (ts.drop k) = enoughB m ts) ∧ Hid (∀ t ∈ ts.take k, 0 ≤ t)) (fun _ i => n - (intOf i).toNat)
      case atStart => exact ⟨0, m, Nat.zero_le _, rfl, rfl, by omega, by omega, by show _ = _; simp, fun t ht => by simp at ht⟩
      case round =>
        obtain ⟨k, cc, hk, rfl, rfl, hcc1, hcc2, HE, HP⟩ := hrel
        by_cases hlt : k < n
        · have hkt : k < ts.length := by rw [HM.out]; exact hlt
          obtain ⟨bd, rfl⟩ := hr2.some_ (by omega)
          have hcell := hr2.cell bd rfl k _ (nums_get .i64 ts k hkt)
          have hh := HE.out
          rw [List.drop_eq_getElem_cons hkt] at hh
          have htk : ts.take (k + 1) = ts.take k ++ [ts[k]] := List.take_succ_eq_append_getElem hkt
          generalize ts[k] = t at hcell hh htk
          have HTK := Lib.hid htk
          clear htk
          simp only [enoughB] at hh
          by_cases ht0 : t < 0
          · clear hh
            go_wp2_with (go_at_call 8; refine (lives09 _).mono ?_; rintro e w2 ⟨rfl, hb2⟩)
            go_ret
            exact ⟨rfl, hb2⟩
          · by_cases hq : cc < t
            · clear hh
              go_wp2_with (go_at_call 8; refine (lives09 _).mono ?_; rintro e w2 ⟨rfl, hb2⟩)
              go_ret
              exact ⟨rfl, hb2⟩
            · rw [if_neg hq] at hh
              have HH := Lib.hid hh
              clear hh
              go_wp2
              go_round
              case rel =>
                refine ⟨k + 1, cc - t, by omega, by go_num, by go_num, by omega, by omega, HH, ?_⟩
                show ∀ x ∈ _, _
                rw [HTK.out]
                intro x hx
                simp only [List.mem_append, List.mem_singleton] at hx
                rcases hx with hx | rfl
                · exact HP.out x hx
                · omega
              case measure => simp [intOf]; omega
        · have he : enoughB os.length ts = true := by
            rw [HN.out, ← HE.out, List.drop_of_length_le (by rw [HM.out]; omega)]
            rfl
          have hpos : ∀ t ∈ ts, 0 ≤ t := by
            have := HP.out
            rw [List.take_of_length_le (by rw [HM.out]; omega)] at this
            exact this
          have hR : Right9 os ts := ⟨by rw [HM.out]; exact HG9.out, hpos⟩
          have HR := Lib.hid hR
          have HEN := Lib.hid he
          have hkn : k = n := by omega
          subst hkn
          have hnd := plan_nodup hR he
          have hpm := plan_mem hR he
          have hprc := plan_reach hR he
          rw [HM.out] at hprc hpm
          have hpl8 := planV_length os ts
          have hnv : (needV os ts).1 = moreL (cntL os k) ts := by rw [plan_need hR, HM.out]
          clear he hpos hR HE HP
          have H1 := Lib.hid (fun W h h2 => mplan A m c os B k d ts W h h2 hti)
          have H2 := Lib.hid (fun W h h2 => mneed A m c os B k d ts W h h2 hti)
          unfold Needs at H2
          rw [hnv] at H2
          generalize planV os ts = l at H1 hnd hpm hprc hpl8
          generalize hmo : moreL (cntL os k) ts = more at hpm H2
          have hmol : more.length = k := by rw [← hmo]; simp [moreL, cntL_length, HM.out]
          clear hmo
          have HND := Lib.hid hnd
          have HPM := Lib.hid hpm
          have HPR := Lib.hid hprc
          have HMOL := Lib.hid hmol
          clear hnd hpm hprc hnv hmol
          go_wp2_with fail
          refine (H1.out _ hr hr2).mono ?_
          rintro e1 w1 ⟨⟨v1, rfl, hn1⟩, hb1⟩
          obtain ⟨A1, m1, c1, rfl, hm1, r1⟩ := own_open hn1
          have hml1 : m1 ≤ 8192 := by rw [hm1.out]; exact hpl8
          clear hn1
          go_wp2_with fail
          refine (mapply A m c os A1 m1 c1 l w1 (hr.below hb1) r1 (by omega)).mono ?_
          rintro e2 w2 ⟨⟨v2, rfl, hn2⟩, hb2⟩
          obtain ⟨A2, m2, c2, rfl, hm2, r2⟩ := own_open hn2
          have hB2 := below_tr hb1 hb2
          have r1 := r1.below hb2
          clear hn2 hb2 hb1
          go_wp2_with fail
          refine (mcount A2 m2 c2 (applyV os l) k w2 r2).mono ?_
          rintro e3 w3 ⟨⟨A3, m3, c3, rfl, r3, -⟩, hb3⟩
          rw [HPR.out] at r3
          have hB3 := below_tr hB2 hb3
          have r1 := r1.below hb3
          clear r2 hB2 hb3
          go_wp2_with fail
          refine (ints03 _ _ _ ts _ _ _ ts _ r3 (hr2.below hB3)).mono ?_
          rintro e4 w4 ⟨rfl, hb4⟩
          simp only [decide_true]
          have hB4 := below_tr hB3 hb4
          have r1 := r1.below hb4
          clear r3 hB3 hb4
          go_wp2_with fail
          refine (H2.out _ (hr.below hB4) (hr2.below hB4)).mono ?_
          rintro e5 w5 ⟨⟨v5, u5, rfl, hn5, hn5', -⟩, hb5⟩
          obtain ⟨A5, m5, c5, rfl, hm5, r5⟩ := own_open hn5
          obtain ⟨A6, m6, c6, rfl, hm6, r6⟩ := own_open hn5'
          have hm5k : m5 = k := by rw [hm5.out]; exact HMOL.out
          subst hm5k
          have hB5 := below_tr hB4 hb5
          have r1 := r1.below hb5
          clear hn5 hn5' hb5 r6 hB4
          go_wp2_with (refine mkn (w0 := w5) w5.heap.size rfl _ _ 22 3 _ 1 8 rfl Try.underlying22 info_int .i64 .i64 _ _ m (by rfl) (by rfl) rfl rfl (by omega) (by unfold maxLen; omega) (Below.refl _ _) (Nat.le_refl _) ?_; intro w7 ho7 hb7 hg7)
          have hz : w7.ownsRow w5.heap.size 3 1 (.slice (some ⟨w5.heap.size, 0, none⟩) m m) m (nums .i64 (hist ((l.take 0).map Mv.core) m)) := by
            have e : (madeCells (Value.int .i64 0).cells (m * 1)).toList = nums .i64 (hist ((l.take 0).map Mv.core) m) := by
              rw [Nat.mul_one, List.take_zero, List.map_nil, hist_nil, show (Value.int .i64 0).cells = #[.int .i64 0] from rfl, toList_madeCells_one]
              simp [nums]
            rw [← e]
            exact ho7
          clear ho7 hg7
          obtain ⟨g, hge⟩ : ∃ g, g = w5.heap.size := ⟨_, rfl⟩
          rw [show Value.slice (some ⟨w5.heap.size, 0, none⟩) m m = Value.slice (some ⟨g, 0, none⟩) m m by rw [hge]] at hz ⊢
          have hlt1 : w5.heap.size ≤ g := by omega
          clear hge
          have HLL : Hid (l.length = m1) := hm1.out.symm
          go_loopw [68] (fun i wr => ∃ k : Nat, k ≤ m1 ∧ i = .int .i64 k ∧ Below w5.heap.size w5 wr ∧ wr.ownsRow w5.heap.size 3 1 (.slice (some ⟨g, 0, none⟩) m m) m (nums .i64 (hist ((l.take k).map Mv.core) m))) (fun i _ => m1 - (intOf i).toNat)
          case atStart => exact ⟨0, Nat.zero_le _, rfl, hb7, hz⟩
          case round =>
            obtain ⟨k, hk, rfl, hb, ho⟩ := hrel
            clear hz hb7
            have hbW := below_then hB5 hB5.size hb
            by_cases hlt : k < m1
            · have hkx : k < l.length := by rw [HLL.out]; exact hlt
              obtain ⟨ld, rfl⟩ := r1.some_ (by omega)
              have hlg : l[k]? = some l[k] := List.getElem?_eq_getElem hkx
              have hcs := mv_cells (r1.below hb) k _ hlg
              obtain ⟨j, hj1, hj2, hj3, hj4⟩ := HPM.out l[k] (List.getElem_mem hkx)
              have htk : (l.take (k + 1)).map Mv.core = (l.take k).map Mv.core ++ [l[k].core] := by rw [List.take_succ_eq_append_getElem hkx, List.map_append]; rfl
              have hnin : ((l.take k).map Mv.core).count l[k].core = 0 := by
                rw [List.count_eq_zero]
                have h1 := HND.out
                rw [← List.take_append_drop (k + 1) l, List.map_append, htk, List.nodup_append, List.nodup_append] at h1
                intro h2
                exact h1.1.2.2 _ h2 _ (by simp) rfl
              have hc0 : wr.cell? (ld.add (k * 3)) = some (.int .i64 l[k].core) := hcs 0 _ rfl
              have hc1 : wr.cell? ⟨(ld.add (k * 3)).block, (ld.add (k * 3)).off + 1, none⟩ = some (.int .i64 l[k].from_) := hcs 1 _ rfl
              have hc2 : wr.cell? ⟨(ld.add (k * 3)).block, (ld.add (k * 3)).off + 2, none⟩ = some (.int .i64 l[k].to) := hcs 2 _ rfl
              rw [hj1] at hc0 htk hnin
              have hsn := hist_snoc ((l.take k).map Mv.core) m (j : Int) (by omega)
              rw [← htk, hnin] at hsn
              simp only [Int.toNat_natCast] at hsn
              have HSN := Lib.hid hsn
              have hjm : j < m := by rw [← HN.out]; exact (List.getElem?_eq_some_iff.1 hj2).1
              obtain ⟨ad, rfl⟩ := hr.some_ (by omega)
              have hoc := (hr.below hbW).cell ad rfl j _ (getD_nums hj2)
              have hsj := ho.cellAt j (by omega)
              rw [getD_nums (hist_get _ _ _ hjm), hnin] at hsj
              generalize hist ((l.take k).map Mv.core) m = hs at ho HSN
              generalize l[k].from_ = fr at hc1 hj2 hj3 hj4 hoc
              generalize l[k].to = tw at hc2 hj3
              have HJ2 := Lib.hid hj2
              have hb1 : (fr == tw) = false := by simp [hj3]
              have hb2 : (fr != fr) = false := by simp
              clear hcs hlg hj1 hj2 hj3 hsn htk hnin
              have hal := below_al hb (.cells #[.int .i64 (j : Int), .int .i64 fr, .int .i64 tw] 40)
              have hoa := ho.alloc (.cells #[.int .i64 (j : Int), .int .i64 fr, .int .i64 tw] 40)
              have hjm1 : (j : Int) < (m : Int) := by omega
              have hd1 : decide ((j : Int) < 0) = false := by simp
              have hd2 : decide ((m : Int) ≤ (j : Int)) = false := by simp; omega
              have hd3 : decide (m ≤ j) = false := by simp; omega
              have hoc2 := cell_below (below_al (Below.refl wr.heap.size wr) (.cells #[.int .i64 (j : Int), .int .i64 fr, .int .i64 tw] 40)) hoc
              go_wp2
              go_quiet (fail)
              have hoN := own_below hoa (below_dr (Below.refl _ _) nq)
              have hf := hoN.frozenAt j
              have hsj2 := hoN.cellAt j (by omega)
              rw [hoa.cellAt j (by omega) |>.symm] at hsj2
              have hsj3 : (wr.alloc (.cells #[.int .i64 (j : Int), .int .i64 fr, .int .i64 tw] 40)).cell? ⟨g, j, none⟩ = some (.int .i64 ((0 : Nat) : Int)) := cell_below (below_al (Below.refl wr.heap.size wr) _) hsj
              rw [hsj3] at hsj2
              have hst := hoN.stored j (.int .i64 (((0 : Nat) : Int) + 1))
              have hal2 := below_dr hal nq
              have hx0 : (((wr.alloc (.cells #[.int .i64 (j : Int), .int .i64 fr, .int .i64 tw] 40)).drewN nq)).cell? ⟨wr.heap.size, 0, none⟩ = some (.int .i64 (j : Int)) := by go_simp
              have hx1 : (((wr.alloc (.cells #[.int .i64 (j : Int), .int .i64 fr, .int .i64 tw] 40)).drewN nq)).cell? ⟨wr.heap.size, 1, none⟩ = some (.int .i64 fr) := by go_simp
              have r5' := (r5.below hb).below (below_dr (below_al (Below.refl wr.heap.size wr) (.cells #[.int .i64 (j : Int), .int .i64 fr, .int .i64 tw] 40)) nq)
              have hgb : g ≠ wr.heap.size := by have := (ho.lt g rfl).2; omega
              generalize ((wr.alloc (.cells #[.int .i64 (j : Int), .int .i64 fr, .int .i64 tw] 40)).drewN nq) = W at hf hsj2 hst hal2 hx0 hx1 r5' ⊢
              rw [nums_set] at hst
              have hst1 := hst.1
              rw [← HSN.out] at hst1
              have hbb : Below w5.heap.size w5 (W.setCell ⟨g, j, none⟩ (.int .i64 (((0 : Nat) : Int) + 1))) := hal2.grown hst.2 hal2.size (fun k hk => by cases hk; exact hlt1)
              have hgw5 : ∀ ad, A5 = some ad → 0 < m5 → ∀ i, i < m5 → (ad.add i).block < w5.heap.size := by
                intro ad e _ i hi
                subst e
                have := r5.len
                have hh : i < (nums .i64 more).length := by rw [this]; omega
                exact World.block_lt_of_cell? w5 _ (r5.cell ad rfl i _ (List.getElem?_eq_getElem hh))
              clear hoN hoa ho hst hsj hsj3 hal hal2
              rcases hj4 with h0 | ⟨q, kk, h1, h2, h3⟩
              · subst h0
                go_wp2
                go_roundw
                case rel => exact ⟨k + 1, by omega, by go_num, by simpa using hbb, by simpa using hst1⟩
                case measure => simp [intOf]; omega
              · subst h1
                have hqm : q < m5 := by rw [← HMOL.out]; exact (List.getElem?_eq_some_iff.1 h2).1
                obtain ⟨qd, rfl⟩ := r5'.some_ (by omega)
                have hcq := r5'.cell qd rfl q _ (getD_nums h2)
                have hqb := hgw5 qd rfl (by omega) q hqm
                have hqg : (qd.add q).block ≠ g := by omega
                have hcq2 : (W.setCell ⟨g, j, none⟩ (.int .i64 1)).cell? (qd.add q) = some (.int .i64 kk) := ((Chg.refl (fun k => k = g) W).setCell g j _ rfl).cell hcq hqg
                have hkk : (kk == 0) = false := by simp; omega
                have hq0 : (0 : Int) < (q : Int) + 1 := by omega
                have hqm1 : (q : Int) < (m5 : Int) := by omega
                go_wp2
                go_roundw
                case rel => exact ⟨k + 1, by omega, by go_num, by simpa using hbb, by simpa using hst1⟩
                case measure => simp [intOf]; omega
            · go_wp2_with (go_at_call 8; refine (lives09 _).mono ?_; rintro e w2 ⟨rfl, hb2⟩)
              go_ret
              exact ⟨rfl, below_tr hbW hb2⟩
end Go.Proofs.Ytjpclnmohemjlaa
