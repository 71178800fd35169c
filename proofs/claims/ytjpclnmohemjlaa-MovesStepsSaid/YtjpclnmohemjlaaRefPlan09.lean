/- The document's Plan of moves. -/
import Derived.Test.YtjpclnmohemjlaaRefNeed09
import Derived.Test.YtjpclnmohemjlaaSame09
namespace Go.Proofs.Ytjpclnmohemjlaa
open Go.RowKit
theorem headD_drop (ps : List Int) (k : Nat) : (ps.drop k).headD 0 = (ps[k]?).getD 0 := by
  rw [List.headD_eq_head?_getD, List.head?_drop]
theorem tail_drop' (ps : List Int) (k : Nat) : (ps.drop k).tail = ps.drop (k + 1) := by
  rw [List.tail_drop]
theorem replicate_snoc (k : Nat) (x : Int) (l : List Int) : x :: (List.replicate k x ++ l) = List.replicate (k + 1) x ++ l := by
  rw [List.replicate_succ]
  rfl
set_option maxRecDepth 100000 in
set_option maxHeartbeats 8000000 in
theorem rplan (A : Option Addr) (m c : Nat) (os : List Int) (B : Option Addr) (n d : Nat) (ts : List Int) (w : World) (hr : Rds w 1 A m c (nums .i64 os)) (hr2 : Rds w 1 B n d (nums .i64 ts)) (hti : ∀ t ∈ ts, I64 t) :
    Calls Try.prog 19 #[.slice A m c, .slice B n d] w fun e w' => (∃ v, e = .returned v ∧ w'.ownsRow w.heap.size 44 3 v (planV os ts).length (mvs (planV os ts))) ∧ Below w.heap.size w w' := by
  have HG := Lib.hid (rright A m c os B n d ts w hr hr2)
  have HN := Lib.hid (nums_inj_len hr)
  have HM := Lib.hid (nums_inj_len hr2)
  cases hg : rightB os ts with
  | false =>
    have HV : Hid (planV os ts = []) := by show _ = _; unfold planV; rw [hg]; rfl
    rw [hg] at HG
    clear hg
    go_enter Try.func19, Try.ntmps19
    go_wp2_with (go_at_call 24; refine HG.out.mono ?_; rintro e w1 ⟨rfl, rfl⟩)
    go_ret
    refine ⟨⟨_, rfl, ?_⟩, Below.refl _ _⟩
    rw [HV.out]
    exact World.ownsRow_nil _ _ _ _
  | true =>
    obtain ⟨⟨g1, g2, g3, g4⟩, g5⟩ := rightB_iff.1 hg
    have hm64 : m ≤ 64 := by rw [← HN.out]; exact g1
    have hn64 : n ≤ 64 := by have := HM.out; omega
    have HTP := Lib.hid g5
    have HRI := Lib.hid hg
    have HO1 := Lib.hid g1
    rw [hg] at HG
    clear hg g4 g5
    go_enter Try.func19, Try.ntmps19
    go_wp2_with (go_at_call 24; refine HG.out.mono ?_; rintro e w1 ⟨rfl, rfl⟩)
    go_loop [5, 30] (fun a i => ∃ (k : Nat) (cc : Int), k ≤ n ∧ i = .int .i64 k ∧ a = .int .i64 cc ∧ 0 ≤ cc ∧ cc ≤ 64 ∧ Hid (enoughB cc (ts.drop k) = enoughB m ts)) (fun _ i => n - (intOf i).toNat)
    case atStart => exact ⟨0, m, Nat.zero_le _, rfl, rfl, by omega, by omega, by show _ = _; simp⟩
    case round =>
      obtain ⟨k, cc, hk, rfl, rfl, hcc1, hcc2, HE⟩ := hrel
      by_cases hlt : k < n
      · have hkt : k < ts.length := by rw [HM.out]; exact hlt
        obtain ⟨bd, rfl⟩ := hr2.some_ (by omega)
        have hcell := hr2.cell bd rfl k _ (nums_get .i64 ts k hkt)
        have hh := HE.out
        rw [List.drop_eq_getElem_cons hkt] at hh
        have ht0 := HTP.out ts[k] (List.getElem_mem hkt)
        generalize ts[k] = t at hcell hh ht0
        simp only [enoughB] at hh
        by_cases hq : cc < t
        · rw [if_pos hq] at hh
          have HV : Hid (planV os ts = []) := by show _ = _; unfold planV; rw [HRI.out, HN.out, ← hh]; rfl
          clear hh
          go_wp2
          go_ret
          refine ⟨⟨_, rfl, ?_⟩, Below.refl _ _⟩
          rw [HV.out]
          exact World.ownsRow_nil _ _ _ _
        · rw [if_neg hq] at hh
          have HH := Lib.hid hh
          clear hh
          go_wp2
          go_round
          case rel => exact ⟨k + 1, cc - t, by omega, by go_num, by go_num, by omega, by omega, HH⟩
          case measure => simp [intOf]; omega
      · have he : enoughB m ts = true := by
          rw [← HE.out, List.drop_of_length_le (by rw [HM.out]; omega)]
          rfl
        have hml := moreL_bd (n := ts.length) HO1.out HTP.out
        have hle := enough_le he HTP.out
        have hll := lackL_bd (os := os) (n := ts.length) (fun t ht => ⟨HTP.out t ht, Int.le_trans (hle t ht) (by omega)⟩)
        have hnv : needV os ts = (moreL (cntL os ts.length) ts, lackL (cntL os ts.length) ts) := by unfold needV; rw [HRI.out]; rfl
        have hm1 : (moreL (cntL os ts.length) ts).length = n := by simp [moreL, cntL_length, HM.out]
        have hl1 : (lackL (cntL os ts.length) ts).length = n := by simp [lackL, cntL_length, HM.out]
        have hpv : planV os ts = movesC os (coresV os (moreL (cntL os ts.length) ts)) (placesV (lackL (cntL os ts.length) ts)) := by unfold planV; rw [HRI.out, HN.out, he, hnv]; rfl
        have hNE0 := fun W h1 h2 => rneed A m c os B n d ts W h1 h2 hti
        unfold Needs at hNE0
        rw [hnv] at hNE0
        simp only [hm1, hl1] at hNE0
        generalize moreL (cntL os ts.length) ts = more at hml hm1 hpv hNE0
        generalize lackL (cntL os ts.length) ts = lack at hll hl1 hpv hNE0
        have HNE := Lib.hid hNE0
        have HPV := Lib.hid hpv
        have HML := Lib.hid hml
        have HLL := Lib.hid hll
        have HM1 := Lib.hid hm1
        have HL1 := Lib.hid hl1
        have hci := coresV_in os more
        have HCI := Lib.hid hci
        clear he hml hll hnv hpv hNE0 hm1 hl1 hle hci hti HE
        go_wp2_with (go_at_call 10; refine (HNE.out _ hr hr2).mono ?_; rintro e w2 ⟨⟨v, u, rfl, hvm, hul, hvu⟩, hb2⟩; obtain ⟨MA, mc, rfl⟩ := own_slice hvm; obtain ⟨LA, lc, rfl⟩ := own_slice hul)
        have hlowM : ∀ k, (Value.slice MA n mc).ownBlock = some k → w.heap.size ≤ k ∧ k < w2.heap.size := fun k hk => ⟨own_base hvm k hk, (hvm.lt k hk).2⟩
        have hlowL : ∀ k, (Value.slice LA n lc).ownBlock = some k → w.heap.size ≤ k ∧ k < w2.heap.size := fun k hk => ⟨own_base hul k hk, (hul.lt k hk).2⟩
        have hr3 := hr.below hb2
        -- the free cores
        go_loopw [10, 49] (fun o i wr => ∃ k : Nat, k ≤ m ∧ i = .int .i64 k ∧ Below w2.heap.size w2 wr ∧ wr.ownsRow w2.heap.size 3 1 o (freeC os k).length (nums .i64 (freeC os k))) (fun _ i _ => m - (intOf i).toNat)
        case atStart => exact ⟨0, Nat.zero_le _, rfl, Below.refl _ _, World.ownsRow_nil _ _ _ _⟩
        case round =>
          obtain ⟨k, hk, rfl, hb, ho⟩ := hrel
          have hfl := freeC_length os k
          by_cases hlt : k < m
          · have hkx : k < os.length := by rw [HN.out]; exact hlt
            obtain ⟨ad, rfl⟩ := hr3.some_ (by omega)
            have hcell := (hr3.below hb).cell ad rfl k _ (nums_get .i64 os k hkx)
            have hog : os[k]? = some os[k] := List.getElem?_eq_getElem hkx
            generalize os[k] = o at hcell hog
            have hfr : freeC os (k + 1) = takeC os (freeC os k) k 0 := rfl
            unfold takeC at hfr
            rw [hog] at hfr
            have HFR := Lib.hid hfr
            clear hfr hog
            generalize freeC os k = fc at ho hfl HFR
            obtain ⟨fl, hfe⟩ : ∃ y, y = fc.length := ⟨_, rfl⟩
            rw [← hfe] at ho hfl
            have HFE := Lib.hid hfe
            clear hfe
            by_cases ho0 : o = 0
            · subst ho0
              go_wp2_with (at_builtin; refine ap1 (w0 := w2) w2.heap.size rfl _ _ 22 3 _ 8 (by rfl) Try.underlying22 info_int rfl (by decide) _ fl _ (.int .i64 k) (by rfl) (by rfl) rfl ho hb hb.size (by omega) ?_; intro v1 w1 q1 q2 q3 q4)
              go_roundw
              case rel =>
                refine ⟨k + 1, by omega, by go_num, q2, ?_⟩
                rw [HFR.out, if_pos rfl, nums_append, List.length_append, ← HFE.out]
                exact q1
              case measure => simp [intOf]; omega
            · have hb0 : (o == 0) = false := by simp [ho0]
              have HO0 := Lib.hid ho0
              clear ho0
              go_wp2
              go_roundw
              case rel =>
                refine ⟨k + 1, by omega, by go_num, hb, ?_⟩
                rw [HFR.out, if_neg (by simpa using HO0.out), ← HFE.out]
                exact ho
              case measure => simp [intOf]; omega
          · have hkm : k = m := by omega
            subst hkm
            have hst : moreC os 0 (more.drop 0) (freeC os k) = coresV os more := by rw [List.drop_zero]; unfold coresV; rw [HN.out]
            have HST := Lib.hid hst
            clear hst
            generalize freeC os k = out0 at hfl ho HST
            have hMk := own_below hvm hb
            have hLk := own_below hul hb
            have hr4 := hr3.below hb
            have hbW := below_then hb2 hb2.size hb
            clear hvm
            go_wp2
            have hch0 : Chg (fun k => (Value.slice MA n mc).ownBlock = some k ∨ w2.heap.size ≤ k) w2 wr := Chg.of_below hb
            have hfl2 : out0.length ≤ 64 := by omega
            clear hb hbW hr4 hfl
            -- the cores that are too many
            go_loopw [10, 63] (fun o v wr => ∃ (i : Nat) (out mr : List Int), i ≤ n ∧ v = .int .i64 i ∧ Chg (fun k => (Value.slice MA n mc).ownBlock = some k ∨ w2.heap.size ≤ k) w2 wr ∧ wr.ownsRow w.heap.size 3 1 (.slice MA n mc) n (nums .i64 mr) ∧
                wr.ownsRow w2.heap.size 3 1 o out.length (nums .i64 out) ∧ out.length ≤ 64 + 64 * i ∧ Hid (∀ j, i ≤ j → mr[j]? = more[j]?) ∧ Hid (moreC os i (more.drop i) out = coresV os more)) (fun _ v _ => n - (intOf v).toNat)
            case atStart => exact ⟨0, out0, more, Nat.zero_le _, rfl, hch0, hMk, ho, by omega, fun j _ => rfl, HST⟩
            case round =>
              clear ho HST hfl2 hMk hch0 hLk
              clear out0
              obtain ⟨i, out, mr, hi, rfl, hch, hmo, hco, hol, HMR, HST⟩ := hrel
              by_cases hlt2 : i < n
              · have hix : i < more.length := by rw [HM1.out]; exact hlt2
                have hmg : more[i]? = some more[i] := List.getElem?_eq_getElem hix
                obtain ⟨k1, k2⟩ := HML.out more[i] (List.getElem_mem hix)
                generalize more[i] = x at hmg k1 k2
                obtain ⟨x, rfl⟩ : ∃ y : Nat, x = y := ⟨x.toNat, by omega⟩
                have hnx := HST.out
                rw [moreC_drop os more i out x hmg, Int.toNat_natCast] at hnx
                obtain ⟨g, cap, hf, hbg, hgl⟩ := hmo.form (by omega)
                obtain ⟨rfl, rfl⟩ : MA = some ⟨g, 0, none⟩ ∧ mc = cap := by simpa using hf
                have hgw2 : g < w2.heap.size := (hlowM g rfl).2
                have hmi : mr[i]? = some (x : Int) := by rw [HMR.out i (Nat.le_refl _)]; exact hmg
                have HMI := Lib.hid hmi
                obtain ⟨least, hle⟩ : ∃ y, y = out.length + x := ⟨_, rfl⟩
                have HX : Hid (moreC os (i + 1) (more.drop (i + 1)) (downC os ((i : Int) + 1) least os.length out) = coresV os more) := by show _ = _; rw [hle]; exact hnx
                rw [HN.out] at HX
                have hl64 : least ≤ 64 + 64 * (i + 1) := by omega
                clear hf hnx hmg hmi HST
                go_wp2
                go_loopw [10, 15] (fun o v wr => ∃ (c' r : Nat) (z : Int) (o2 mr2 : List Int), c' ≤ k ∧ v = .int .i64 z ∧ z + 1 = c' ∧ Chg (fun k => (Value.slice (some ⟨g, 0, none⟩) n mc).ownBlock = some k ∨ w2.heap.size ≤ k) w2 wr ∧ wr.ownsRow w.heap.size 3 1 (.slice (some ⟨g, 0, none⟩) n mc) n (nums .i64 mr2) ∧
                    wr.ownsRow w2.heap.size 3 1 o o2.length (nums .i64 o2) ∧ o2.length + r = least ∧ Hid (mr2[i]? = some (r : Int)) ∧ Hid (∀ j, i + 1 ≤ j → mr2[j]? = more[j]?) ∧ Hid (downC os ((i : Int) + 1) least c' o2 = downC os ((i : Int) + 1) least k out)) (fun _ v _ => ((intOf v) + 1).toNat)
                case atStart => exact ⟨k, x, (k : Int) - 1, out, mr, Nat.le_refl _, rfl, by omega, hch, hmo, hco, hle.symm, HMI, fun j hj => HMR.out j (by omega), rfl⟩
                case round =>
                  clear hch hmo hco hle HMI HMR
                  obtain ⟨c', r, z, o2, mr2, hck, rfl, hz, hch, hmo, hco, hlr, HMI, HMR, HD⟩ := hrel
                  have hc2 := hmo.cellAt i (by omega)
                  rw [getD_nums HMI.out] at hc2
                  have hf2 := hmo.frozenAt i
                  have fin : downC os ((i : Int) + 1) least c' o2 = o2 → moreC os (i + 1) (more.drop (i + 1)) o2 = coresV os more := by
                    intro h1
                    rw [← HX.out, ← HD.out, h1]
                  have FIN := Lib.hid fin
                  clear fin
                  by_cases hz0 : c' = 0
                  · subst hz0
                    have hz1 : z < 0 := by omega
                    have HF2 := Lib.hid (FIN.out rfl)
                    go_wp2
                    go_roundw
                    case rel => exact ⟨i + 1, o2, mr2, by omega, by go_num, hch, hmo, hco, by omega, HMR, HF2⟩
                    case measure => simp [intOf]; omega
                  · obtain ⟨c', rfl⟩ : ∃ y, c' = y + 1 := ⟨c' - 1, by omega⟩
                    obtain rfl : z = (c' : Int) := by omega
                    rcases Nat.eq_zero_or_pos r with hr0 | hr0
                    · subst hr0
                      have HF2 := Lib.hid (FIN.out (downC_stop _ _ _ _ _ (by omega)))
                      go_wp2
                      go_roundw
                      case rel => exact ⟨i + 1, o2, mr2, by omega, by go_num, hch, hmo, hco, by omega, HMR, HF2⟩
                      case measure => simp [intOf]; omega
                    · obtain ⟨r, rfl⟩ : ∃ y, r = y + 1 := ⟨r - 1, by omega⟩
                      have hd := HD.out
                      simp only [downC] at hd
                      rw [if_pos (by omega)] at hd
                      have hkx : c' < os.length := by rw [HN.out]; omega
                      obtain ⟨ad, rfl⟩ := hr.some_ (by omega)
                      have ho0 := hr.cell ad rfl c' _ (nums_get .i64 os c' hkx)
                      have holt := World.block_lt_of_cell? w _ ho0
                      have ho3 := hr3.cell ad rfl c' _ (nums_get .i64 os c' hkx)
                      have hab : (ad.add c').block = ad.block := by unfold Addr.add; split <;> rfl
                      have hcell := hch.cell ho3 (by
                        have := hb2.size
                        rintro (h | h)
                        · have := hlowM _ h; omega
                        · omega)
                      have hog : os[c']? = some os[c'] := List.getElem?_eq_getElem hkx
                      unfold takeC at hd
                      rw [hog] at hd
                      generalize os[c'] = y at hcell hog hd
                      have HD2 := Lib.hid hd
                      clear hd hog ho0 ho3 HD hab holt
                      by_cases hy : y = (i : Int) + 1
                      · have hyb : (y == (i : Int) + 1) = true := by simp [hy]
                        have HY := Lib.hid hy
                        clear hy
                        have HCO := Lib.hid hco
                        have hlen2 : o2.length ≤ least := by omega
                        obtain ⟨l2, hl2⟩ : ∃ y, y = o2.length := ⟨_, rfl⟩
                        rw [← hl2] at HCO hlen2
                        have HL2 := Lib.hid hl2
                        clear hl2 hco
                        go_wp2_with (at_builtin; refine ap1 (w0 := wr) w2.heap.size rfl _ _ 22 3 _ 8 (by rfl) Try.underlying22 info_int rfl (by decide) _ l2 _ (.int .i64 c') (by rfl) (by rfl) rfl HCO.out (Below.refl _ _) hch.size (by omega) ?_; intro v1 w1 q1 q2 q3 q4; have hmo1 := hmo.kept q3 (.inr (fun e => by have := own_base HCO.out g e.symm; omega)); have hc5 := hmo1.cellAt i (by omega); rw [getD_nums HMI.out] at hc5; have hf5 := hmo1.frozenAt i)
                        have hst := hmo1.stored i (.int .i64 (r : Int))
                        rw [nums_set] at hst
                        have hch1 : Chg (fun k => (Value.slice (some ⟨g, 0, none⟩) n mc).ownBlock = some k ∨ w2.heap.size ≤ k) wr w1 := Chg.of_grown q3 (fun k e => .inr (own_base HCO.out k e))
                        have hcs : Chg (fun k => k = g) w1 (w1.setCell ⟨g, i, none⟩ (.int .i64 (r : Int))) := (Chg.refl _ _).setCell g i _ rfl
                        have hco5 := hcs.own q1 (fun k hk e => by have := own_base q1 k hk; omega)
                        have hlm : i < mr2.length := (List.getElem?_eq_some_iff.1 HMI.out).1
                        go_roundw
                        case rel =>
                          refine ⟨c', r, (c' : Int) - 1, o2 ++ [(c' : Int)], mr2.set i (r : Int), by omega, by go_num, by omega, (hch.trans hch1).setCell g i _ (.inl rfl), hst.1, ?_, ?_, ?_, ?_, ?_⟩
                          · rw [nums_append, List.length_append, ← HL2.out]; exact hco5
                          · rw [List.length_append, ← HL2.out]; simp; have := HL2.out; omega
                          · show _ = _
                            simp [hlm]
                          · intro j hj
                            rw [List.getElem?_set_ne (by omega)]
                            exact HMR.out j hj
                          · show _ = _
                            rw [← HD2.out, if_pos (by rw [HY.out])]
                        case measure => simp [intOf]
                      · have hyb : (y == (i : Int) + 1) = false := by simp [hy]
                        have HY := Lib.hid hy
                        clear hy
                        go_wp2
                        go_roundw
                        case rel => exact ⟨c', r + 1, (c' : Int) - 1, o2, mr2, by omega, by go_num, by omega, hch, hmo, hco, hlr, HMI, HMR, by show _ = _; rw [← HD2.out, if_neg (by simpa using HY.out)]⟩
                        case measure => simp [intOf]
              · have hin : i = n := by omega
                subst hin
                have hfin := HST.out
                rw [List.drop_of_length_le (by rw [HM1.out]; exact Nat.le_refl _)] at hfin
                simp only [moreC] at hfin
                have HC := Lib.hid hfin
                clear hfin HST
                have hLr := hch.own hul (fun k hk h => by
                  rcases h with h | h
                  · rcases hvu with h1 | h1
                    · rw [h1] at h; cases h
                    · exact h1 (by rw [h, hk])
                  · have := hlowL k hk; omega)
                have hbr := hch.toBelow hb2 hb2.size (fun k h => by
                  have := hb2.size
                  rcases h with h | h
                  · exact (hlowM k h).1
                  · omega)
                have hr5 := hr.below hbr
                obtain ⟨CA, cl, cc2, rfl, HCL, hrC⟩ := own_open hco
                have hrL := (own_rds' hLr).2
                have hol2 : cl ≤ 8192 := by have := HCL.out; omega
                clear hco hLr hmo hch hol HMR HCL
                clear mr
                have HLC0 := Lib.hid (nums_inj_len hrC)
                rw [HC.out] at hrC HLC0
                clear hul HC
                clear out
                obtain ⟨W3, rfl⟩ : ∃ x, x = wr := ⟨_, rfl⟩
                go_wp2
                -- the places
                go_loopw [11, 100] (fun o v w4 => ∃ (j : Nat) (pl : List Int), j ≤ i ∧ v = .int .i64 j ∧ Below W3.heap.size W3 w4 ∧ w4.ownsRow W3.heap.size 3 1 o pl.length (nums .i64 pl) ∧ pl.length ≤ 64 * j ∧ Hid (pl ++ placesF j (lack.drop j) = placesV lack)) (fun _ v _ => i - (intOf v).toNat)
                case atStart => exact ⟨0, [], Nat.zero_le _, rfl, Below.refl _ _, World.ownsRow_nil _ _ _ _, Nat.zero_le _, rfl⟩
                case round =>
                  obtain ⟨j, pl, hj, rfl, hb4, hpo, hpl, HP⟩ := hrel
                  by_cases hlt3 : j < i
                  · have hjx : j < lack.length := by rw [HL1.out]; exact hlt3
                    have hjg : lack[j]? = some lack[j] := List.getElem?_eq_getElem hjx
                    obtain ⟨k1, k2⟩ := HLL.out lack[j] (List.getElem_mem hjx)
                    obtain ⟨ld, rfl⟩ := hrL.some_ (by omega)
                    have hcell := (hrL.below hb4).cell ld rfl j _ (nums_get .i64 lack j hjx)
                    generalize lack[j] = x at hjg k1 k2 hcell
                    obtain ⟨x, rfl⟩ : ∃ y : Nat, x = y := ⟨x.toNat, by omega⟩
                    have hp1 := HP.out
                    rw [placesF_drop lack j x hjg, Int.toNat_natCast] at hp1
                    have HP1 := Lib.hid hp1
                    clear hp1 HP hjg
                    go_wp2
                    go_loopw [11, 17] (fun o v w5 => ∃ (r : Nat) (p2 : List Int), v = .int .i64 r ∧ Below W3.heap.size W3 w5 ∧ w5.ownsRow W3.heap.size 3 1 o p2.length (nums .i64 p2) ∧ p2.length + r ≤ 64 * (j + 1) ∧ r ≤ 64 ∧ Hid (p2 ++ (List.replicate r ((j : Int) + 1) ++ placesF (j + 1) (lack.drop (j + 1))) = placesV lack)) (fun _ v _ => (intOf v).toNat)
                    case atStart => exact ⟨x, pl, rfl, hb4, hpo, by omega, by omega, HP1⟩
                    case round =>
                      clear hpo hb4 hpl HP1
                      clear pl
                      obtain ⟨r, p2, rfl, hb4, hpo, hpl, hr64, HP⟩ := hrel
                      rcases Nat.eq_zero_or_pos r with hr0 | hr0
                      · subst hr0
                        go_wp2
                        go_roundw
                        case rel => exact ⟨j + 1, p2, by omega, by go_num, hb4, hpo, by omega, by simpa using HP⟩
                        case measure => simp [intOf]; omega
                      · obtain ⟨r, rfl⟩ : ∃ y, r = y + 1 := ⟨r - 1, by omega⟩
                        obtain ⟨l2, hl2⟩ : ∃ y, y = p2.length := ⟨_, rfl⟩
                        rw [← hl2] at hpo hpl
                        have HL2 := Lib.hid hl2
                        clear hl2
                        go_wp2_with (at_builtin; refine ap1 (w0 := W3) W3.heap.size rfl _ _ 22 3 _ 8 (by rfl) Try.underlying22 info_int rfl (by decide) _ l2 _ (.int .i64 ((j : Int) + 1)) (by rfl) (by rfl) rfl hpo hb4 hb4.size (by omega) ?_; intro v1 w1 q1 q2 q3 q4)
                        go_roundw
                        case rel =>
                          refine ⟨r, p2 ++ [(j : Int) + 1], by go_num, q2, ?_, ?_, by omega, ?_⟩
                          · rw [nums_append, List.length_append, ← HL2.out]; exact q1
                          · rw [List.length_append, ← HL2.out]; simp; omega
                          · show _ = _
                            rw [← HP.out, List.append_assoc]
                            rfl
                        case measure => simp [intOf]
                  · have hjn : j = i := by omega
                    subst hjn
                    have hp1 := HP.out
                    rw [List.drop_of_length_le (by rw [HL1.out]; exact Nat.le_refl _)] at hp1
                    simp only [placesF, List.append_nil] at hp1
                    obtain ⟨PA, pn, pc, rfl, HPL, hrP⟩ := own_open hpo
                    rw [hp1] at hrP
                    have HPN := Lib.hid (nums_inj_len hrP)
                    have hpn : pn ≤ 64 * 64 := by have := HPL.out; omega
                    have hrC4 := hrC.below hb4
                    have hr6 := hr5.below hb4
                    have hbw4 := below_then hbr hbr.size hb4
                    clear hpo hp1 HP HPL hrC hr5 hb4 hpl
                    clear pl
                    obtain ⟨W4, rfl⟩ : ∃ x, x = wr := ⟨_, rfl⟩
                    go_wp2
                    -- the moves
                    go_loopw [18, 117] (fun o v w6 => ∃ (q : Nat) (done : List Mv), q ≤ cl ∧ v = .int .i64 q ∧ Below W4.heap.size W4 w6 ∧ w6.ownsRow W4.heap.size 44 3 o done.length (mvs done) ∧ done.length ≤ q ∧ Hid (done ++ movesC os ((coresV os more).drop q) ((placesV lack).drop q) = planV os ts)) (fun _ v _ => cl - (intOf v).toNat)
                    case atStart => exact ⟨0, [], Nat.zero_le _, rfl, Below.refl _ _, World.ownsRow_nil _ _ _ _, Nat.zero_le _, by show _ = _; rw [HPV.out]; rfl⟩
                    case round =>
                      obtain ⟨q, done, hq, rfl, hb6, hdo, hdl, HD⟩ := hrel
                      by_cases hlt4 : q < cl
                      · have hqx : q < (coresV os more).length := by rw [HLC0.out]; exact hlt4
                        obtain ⟨cd, rfl⟩ := hrC4.some_ (by omega)
                        have hc1 := (hrC4.below hb6).cell cd rfl q _ (nums_get .i64 _ q hqx)
                        have hst := HD.out
                        rw [List.drop_eq_getElem_cons hqx] at hst
                        obtain ⟨k1, k2⟩ := HCI.out _ (List.getElem_mem hqx)
                        generalize (coresV os more)[q] = x at hc1 hst k1 k2
                        obtain ⟨x, rfl⟩ : ∃ y : Nat, x = y := ⟨x.toNat, by omega⟩
                        have hxo : x < os.length := by omega
                        have hxm : x < k := by rw [← HN.out]; exact hxo
                        obtain ⟨ad, rfl⟩ := hr6.some_ (by omega)
                        have ho4 := (hr6.below hb6).cell ad rfl x _ (nums_get .i64 os x hxo)
                        have hog : os[x]? = some os[x] := List.getElem?_eq_getElem hxo
                        simp only [movesC, Int.toNat_natCast, hog, Option.getD_some] at hst
                        rw [headD_drop, tail_drop'] at hst
                        generalize os[x] = y at ho4 hst
                        obtain ⟨tw, htw⟩ : ∃ tw, tw = ((placesV lack)[q]?).getD 0 := ⟨_, rfl⟩
                        rw [← htw] at hst
                        have HST2 := Lib.hid hst
                        clear hst hog HD
                        obtain ⟨dl, hde⟩ : ∃ z, z = done.length := ⟨_, rfl⟩
                        rw [← hde] at hdo hdl
                        have HDE := Lib.hid hde
                        clear hde
                        have post : ∀ (w7 : World) (o9 : Value) (d2 : List Mv), w7.ownsRow W4.heap.size 44 3 o9 (dl + d2.length) (mvs (done ++ d2)) → d2.length ≤ 1 → d2 = (if tw = y then [] else [⟨x, y, tw⟩]) → Below W4.heap.size W4 w7 →
                            ∃ (q1 : Nat) (done1 : List Mv), q1 ≤ cl ∧ Value.int .i64 ((q : Int) + 1) = .int .i64 q1 ∧ Below W4.heap.size W4 w7 ∧ w7.ownsRow W4.heap.size 44 3 o9 done1.length (mvs done1) ∧ done1.length ≤ q1 ∧ Hid (done1 ++ movesC os ((coresV os more).drop q1) ((placesV lack).drop q1) = planV os ts) := by
                          intro w7 o9 d2 a1 a2 a3 a4
                          refine ⟨q + 1, done ++ d2, by omega, by go_num, a4, by rw [List.length_append, ← HDE.out]; exact a1, by rw [List.length_append, ← HDE.out]; omega, ?_⟩
                          show _ = _
                          rw [← HST2.out, List.append_assoc, a3]
                        have POST := Lib.hid post
                        clear post
                        have way : (pn ≤ q ∧ tw = 0) ∨ (q < pn ∧ (placesV lack)[q]? = some tw) := by
                          by_cases h : q < pn
                          · refine .inr ⟨h, ?_⟩
                            have h2 : q < (placesV lack).length := by rw [HPN.out]; exact h
                            rw [htw, List.getElem?_eq_getElem h2]
                            rfl
                          · refine .inl ⟨by omega, ?_⟩
                            rw [htw, List.getElem?_eq_none (by rw [HPN.out]; omega)]
                            rfl
                        clear htw
                        rcases way with ⟨hw1, hw2⟩ | ⟨hw1, hw2⟩
                        · have hz : Value.int .i64 0 = Value.int .i64 tw := by rw [hw2]
                          by_cases hto : tw = y
                          · subst hto
                            subst hw2
                            go_wp2
                            go_roundw
                            case rel => exact POST.out _ _ [] (by simpa using hdo) (by simp) (by simp) hb6
                            case measure => simp [intOf]; omega
                          · subst hw2
                            have hnb : ((0 : Int) != y) = true := by simp; exact hto
                            have HTO := Lib.hid hto
                            clear hto
                            go_wp2_with (at_builtin; refine apk (w0 := W4) W4.heap.size rfl _ _ 32 44 _ 3 24 (by rfl) Try.underlying32 info_rmove rfl (by decide) (by decide) _ dl (mvs done) (mvC ⟨x, y, 0⟩) (by rfl) (by rfl) rfl (by intro u hu; simp [mvC] at hu; rcases hu with rfl | rfl | rfl <;> rfl) hdo hb6 hb6.size (by omega) ?_; intro v5 w5 q1 q2 q3 q4)
                            go_roundw
                            case rel => exact POST.out _ _ [⟨x, y, 0⟩] (by rw [mvs_append, mvs_one]; exact q1) (by simp) (by rw [if_neg HTO.out]) q2
                            case measure => simp [intOf]; omega
                        · obtain ⟨pd, rfl⟩ := hrP.some_ (by omega)
                          have hcp := (hrP.below hb6).cell pd rfl q _ (getD_nums hw2)
                          have HW2 := Lib.hid hw2
                          clear hw2
                          by_cases hto : tw = y
                          · subst hto
                            go_wp2
                            go_roundw
                            case rel => exact POST.out _ _ [] (by simpa using hdo) (by simp) (by simp) hb6
                            case measure => simp [intOf]; omega
                          · have hnb : (tw != y) = true := by simp [hto]
                            have HTO := Lib.hid hto
                            clear hto
                            go_wp2_with (at_builtin; refine apk (w0 := W4) W4.heap.size rfl _ _ 32 44 _ 3 24 (by rfl) Try.underlying32 info_rmove rfl (by decide) (by decide) _ dl (mvs done) (mvC ⟨x, y, tw⟩) (by rfl) (by rfl) rfl (by intro u hu; simp [mvC] at hu; rcases hu with rfl | rfl | rfl <;> rfl) hdo hb6 hb6.size (by omega) ?_; intro v5 w5 q1 q2 q3 q4)
                            go_roundw
                            case rel => exact POST.out _ _ [⟨x, y, tw⟩] (by rw [mvs_append, mvs_one]; exact q1) (by simp) (by rw [if_neg HTO.out]) q2
                            case measure => simp [intOf]; omega
                      · have hqc : q = cl := by omega
                        subst hqc
                        have hfin := HD.out
                        rw [List.drop_of_length_le (by rw [HLC0.out]; exact Nat.le_refl _)] at hfin
                        simp only [movesC, List.append_nil] at hfin
                        have HF := Lib.hid hfin
                        clear hfin HD
                        go_wp2
                        go_ret
                        refine ⟨⟨_, rfl, ?_⟩, below_then hbw4 hbw4.size hb6⟩
                        rw [← HF.out]
                        exact own_mono hdo hbw4.size
end Go.Proofs.Ytjpclnmohemjlaa
