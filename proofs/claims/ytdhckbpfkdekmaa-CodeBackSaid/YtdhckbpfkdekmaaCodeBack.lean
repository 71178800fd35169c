/- The law CodeBack, walked. -/
import Derived.Test.YtdhckbpfkdekmaaVal
import Derived.Test.YtdhckbpfkdekmaaSrcRest
import Derived.Test.YtdhckbpfkdekmaaInts03
import Derived.Test.YtdhckbpfkdekmaaLaw07
namespace Go.Proofs.Ytdhckbpfkdekmaa
open Go.RowKit
set_option linter.unusedSimpArgs false
theorem back_lives (D : Option Addr) (m d : Nat) (w : World) (h : 30 < m) :
    Calls Try.prog 8 #[.slice D m d] w fun e w' => e = .returned (.bool true) ∧ Below w.heap.size w w' := by
  have HL := Lib.hid (fun W => lives07 W)
  have d1 : (30 : Int) < m := by omega
  go_enter Try.func8, Try.ntmps8
  go_wp2_with (go_at_call 9; (with_reducible refine (HL.out _).mono ?_); rintro e w1 ⟨rfl, hb1⟩)
  go_ret
  exact ⟨rfl, hb1⟩
/-- One value is got: what the source is ahead of it, and behind. -/
def StepG (B b : Nat) (w : World) (s t : List Int) (p : Value → World → Prop) (x : Option Value) (W : World) : Prop :=
  (x = none ∧ Chg (fun k => k = b) w W ∧ Src B W b s 0) ∨ (∃ v, x = some v ∧ p v W ∧ Chg (fun k => k = b) w W ∧ Src B W b t 0)
section
variable {B b : Nat} {w W : World} {s t : List Int} {p : Value → World → Prop} {x : Option Value}
theorem StepG.chg (h : StepG B b w s t p x W) : Chg (fun k => k = b) w W := by
  rcases h with ⟨_, h, _⟩ | ⟨_, _, _, h, _⟩ <;> exact h
theorem StepG.fst (h : StepG B b w s t p none W) : Chg (fun k => k = b) w W ∧ Src B W b s 0 := by
  rcases h with ⟨_, h⟩ | ⟨_, h, _⟩
  · exact h
  · cases h
theorem StepG.snd {v : Value} (h : StepG B b w s t p (some v) W) : p v W ∧ Chg (fun k => k = b) w W ∧ Src B W b t 0 := by
  rcases h with ⟨h, _⟩ | ⟨_, h, h2⟩
  · cases h
  · cases h; exact h2
end
set_option maxRecDepth 100000 in
set_option maxHeartbeats 32000000 in
theorem back_walk (D : Option Addr) (m d : Nat) (l : List ValV) (w : World) (hr : Rds w 5 D m d (vals l)) (hv : ∀ q ∈ l, q.ok w) (hm : m ≤ 30) :
    Calls Try.prog 8 #[.slice D m d] w fun e w' => e = .returned (.bool true) ∧ Below w.heap.size w w' := by
  have HL := Lib.hid (fun W => lives07 W)
  have d1 : decide ((30 : Int) < m) = false := by simp; omega
  have HN := Lib.hid (vals_len hr)
  have HV := Lib.hid hv
  clear hv
  go_enter Try.func8, Try.ntmps8
  go_wp2
  go_loopw [16, 3] (fun iv bv wr => ∃ (k : Nat) (A : Option Addr) (n c : Nat) (zs : List Int), k ≤ m ∧ iv = .int .i64 k ∧ bv = .slice A n c ∧ Rds wr 1 A n c (nums .u8 zs) ∧ Below w.heap.size w wr ∧ Hid (zs = encVs (l.take k)) ∧ Hid (∀ (j : Nat) (h : j < l.length), j < k → (l[j]).s.size ≤ 200 ∧ (l[j]).m ≤ 50) ∧ Hid (zs.length ≤ k * 600) ∧ Hid (U8s zs)) (fun iv _ _ => m - (intOf iv).toNat)
  case atStart => exact ⟨0, none, 0, 0, [], by omega, rfl, rfl, Rds.none_ _ _, Below.refl _ _, rfl, fun j h hj => absurd hj (Nat.not_lt_zero _), by show 0 ≤ _; omega, fun x hx => by cases hx⟩
  case round =>
    obtain ⟨k, A, n, c, zs, hk, rfl, rfl, hrz, hBr, HZ, HS, HZL, HZU⟩ := hrel
    by_cases hlt : k < m
    · have hkx : k < l.length := by rw [HN.out]; exact hlt
      obtain ⟨ad, rfl⟩ := hr.some_ (by omega)
      have ha := val_read (hr.below hBr) k l[k] (List.getElem?_eq_getElem hkx)
      have HQK := Lib.hid ((HV.out l[k] (List.getElem_mem hkx)).below hBr)
      have HTK := Lib.hid (encVs_take hkx)
      have HSK : Hid ((l[k]).s.size ≤ 200 → (l[k]).m ≤ 50 → ∀ (j : Nat) (h : j < l.length), j < k + 1 → (l[j]).s.size ≤ 200 ∧ (l[j]).m ≤ 50) := by
        intro h1 h2 j h hj
        by_cases hjk : j < k
        · exact HS.out j h hjk
        · obtain rfl : j = k := by omega
          exact ⟨h1, h2⟩
      generalize l[k] = q at ha HQK HTK HSK
      obtain ⟨qk, qn, qi, qs, qA, qm, qc, ql⟩ := q
      obtain ⟨c0, c1, c2, c3, c4⟩ := ha
      simp only at c0 c1 c2 c3 c4
      have hnz : zs.length = n := rds_len hrz
      have hnk : n ≤ 20000 := by have := HZL.out; omega
      clear hkx hnz
      by_cases hs : 200 < qs.size
      · have hs1 : (200 : Int) < qs.size := by omega
        have hs2 : decide ((200 : Int) < qs.size) = true := by simp; omega
        go_wp2_with (go_at_call 9; (with_reducible refine (HL.out _).mono ?_); rintro e w4 ⟨rfl, hb4⟩)
        go_ret
        exact ⟨rfl, below_then (below_then hBr hBr.size (below_al (Below.refl _ _) _)) (by have := hBr.size; simp; omega) hb4⟩
      · have hs2 : decide ((200 : Int) < qs.size) = false := by simp; omega
        by_cases hmm : 50 < qm
        · have hm2 : decide ((50 : Int) < qm) = true := by simp; omega
          go_wp2_with (go_at_call 9; (with_reducible refine (HL.out _).mono ?_); rintro e w4 ⟨rfl, hb4⟩)
          go_ret
          exact ⟨rfl, below_then (below_then hBr hBr.size (below_al (Below.refl _ _) _)) (by have := hBr.size; simp; omega) hb4⟩
        · have hm2 : decide ((50 : Int) < qm) = false := by simp; omega
          have hal : Below wr.heap.size wr (wr.alloc (.cells #[.int .i64 qk, .int .u64 qn, .int .i64 qi, .string qs, .slice qA qm qc] 26)) := below_al (Below.refl _ _) _
          have HP := Lib.hid (lawPut ⟨qk, qn, qi, qs, qA, qm, qc, ql⟩ A n c zs _ (hrz.below hal) (by omega) (HQK.out.below hal) (by show qs.size ≤ 1000; omega) (by show qm ≤ 1000; omega))
          have HBA := Lib.hid (below_then hBr hBr.size hal)
          have HSM : Hid (qs.size ≤ 200 ∧ qm ≤ 50) := ⟨by omega, by omega⟩
          unfold ValV.val at HP
          clear hal hs hmm
          go_wp2_with (go_at_call 33; (with_reducible refine HP.out.mono ?_); rintro e w4 ⟨v4, rfl, hown4, hb4⟩; obtain ⟨A4, c4', rfl, hr4⟩ := own_rds hown4)
          go_roundw
          case rel =>
            refine ⟨k + 1, A4, _, c4', zs ++ encV ⟨qk, qn, qi, qs, qA, qm, qc, ql⟩, by omega, by go_num, rfl, (by rw [List.length_append] at hr4; exact hr4), below_then HBA.out HBA.out.size hb4, ?_, HSK.out HSM.out.1 HSM.out.2, ?_, ?_⟩
            · show _ = _
              rw [HTK.out, HZ.out]
            · show _ ≤ _
              have h1 := encV_len HQK.out HSM.out.1 HSM.out.2
              have h2 := HZL.out
              rw [List.length_append]
              omega
            · exact HZU.out.append (encV_u8 HQK.out (by have := HSM.out.1; show qs.size ≤ 1000; omega) (by have := HSM.out.2; show qm ≤ 1000; omega))
          case measure => simp only [intOf]; omega
    · have hkm : k = m := by omega
      have hnz : zs.length = n := rds_len hrz
      have hnk : n ≤ 20000 := by have := HZL.out; omega
      have HZ2 : Hid (zs = encVs (l.drop 0)) := by show _ = _; rw [HZ.out, hkm, ← HN.out, List.take_length, List.drop_zero]
      have HSA : Hid (∀ (j : Nat) (h : j < l.length), (l[j]).s.size ≤ 200 ∧ (l[j]).m ≤ 50) := fun j h => HS.out j h (by rw [hkm, ← HN.out]; exact h)
      have HR := Lib.hid (srcRead A n c zs wr hrz (by omega))
      obtain ⟨W3, rfl⟩ : ∃ x, x = wr := ⟨_, rfl⟩
      clear hkm hnz HZ HS HZL
      go_wp2_with (go_at_call 20; (with_reducible refine HR.out.mono ?_); rintro e w1 ⟨b, rfl, hbk, hb1, hs1⟩)
      have hbl : b < w1.heap.size := hs1.made.lt
      have hBw1 : Below w.heap.size w w1 := below_then hBr hBr.size hb1
      have hbw : w.heap.size ≤ b := Nat.le_trans hBr.size hbk
      go_loopw [39] (fun iv wr => ∃ (k : Nat) (bs : List Int), k ≤ m ∧ iv = .int .i64 k ∧ Src w1.heap.size wr b bs 0 ∧ Chg (fun k => k = b) w1 wr ∧ Below w.heap.size w wr ∧ Hid (bs = encVs (l.drop k)) ∧ Hid (U8s bs) ∧ Hid (bs.length ≤ 1000000)) (fun iv _ => m - (intOf iv).toNat)
      case atStart => exact ⟨0, zs, by omega, rfl, hs1, Chg.refl _ _, hBw1, HZ2.out, HZU.out, by show _ ≤ _; rw [rds_len hrz]; omega⟩
      case round =>
        obtain ⟨k, bs, hk, rfl, hsr, hch, hBr2, HB, HU, HBL⟩ := hrel
        by_cases hlt : k < m
        · have hkx : k < l.length := by rw [HN.out]; exact hlt
          obtain ⟨ad, rfl⟩ := hr.some_ (by omega)
          have ha := val_read (hr.below hBr2) k l[k] (List.getElem?_eq_getElem hkx)
          have HQK := Lib.hid (HV.out l[k] (List.getElem_mem hkx))
          have HDR := Lib.hid (encVs_drop hkx)
          have HSM := Lib.hid (HSA.out k hkx)
          generalize l[k] = q at ha HQK HDR HSM
          obtain ⟨qk, qn, qi, qs, qA, qm, qc, ql⟩ := q
          obtain ⟨c0, c1, c2, c3, c4⟩ := ha
          simp only at c0 c1 c2 c3 c4
          obtain ⟨rest, hrest⟩ : ∃ rest, rest = encVs (l.drop (k + 1)) := ⟨_, rfl⟩
          have HRS := Lib.hid hrest
          have HBB : Hid (bs = encV ⟨qk, qn, qi, qs, qA, qm, qc, ql⟩ ++ rest) := by show _ = _; rw [HB.out, HDR.out, hrest]
          have HRU : Hid (U8s rest) := fun x hx => HU.out x (by rw [HBB.out]; exact List.mem_append_right _ hx)
          have HRL : Hid (rest.length ≤ 1000000) := by show _ ≤ _; have := HBL.out; rw [HBB.out, List.length_append] at this; omega
          clear hkx hrest HDR
          have hsz1 := hch.size
          by_cases h0 : qk = 0
          · subst h0
            have HE : Hid (bs = enc qn ++ rest) := by show _ = _; rw [HBB.out]; simp [encV, bytesOf_length, flagN]
            have HG : Hid (∀ W, Src w1.heap.size W b bs 0 → w1.heap.size ≤ W.heap.size → Calls Try.prog 21 #[.pointer (some ⟨b, 0, none⟩), .int .u64 18446744073709551615] W fun e w' => e = .returned (.int .u64 qn) ∧ Chg (fun k => k = b) W w' ∧ Src w1.heap.size w' b rest 0) := by
              intro W h hB
              have h9 := HU.out
              have h8 := HBL.out
              rw [HE.out] at h h9 h8
              have h1 := srcNum' (B := w1.heap.size) b 18446744073709551615 0 _ W h hB h9
              rw [gotE_ok (f := fun bs => numM bs 18446744073709551615) (numM_enc HQK.out.n rest)] at h1
              exact h1
            clear HE
            go_wp2
            obtain ⟨W1, hW1⟩ : ∃ W1, W1 = wr.alloc (.cells #[.int .i64 0, .int .u64 qn, .int .i64 qi, .string qs, .slice qA qm qc] (26 : Nat)) := ⟨_, rfl⟩
            have hal : Below wr.heap.size wr W1 := by rw [hW1]; exact below_al (Below.refl _ _) _
            have xf : W1.cell? ⟨wr.heap.size, 1, none⟩ = some (.int .u64 qn) := by rw [hW1]; go_simp
            rw [← hW1]
            have hbw1 : Below w.heap.size w W1 := below_then hBr2 hBr2.size hal
            have hsz2 := hal.size
            have hnb : wr.heap.size ≠ b := by omega
            have hss := hsr.below hal
            clear hW1 c0 c1 c2 c3 c4
            obtain ⟨G, hG⟩ : ∃ G : Option Value → World → Prop, ∀ x W, G x W = StepG w1.heap.size b W1 bs rest (fun v W => True) x W := ⟨_, fun _ _ => rfl⟩
            obtain ⟨S_, hS_⟩ : ∃ S_ : World → World → Prop, S_ = (fun _ _ => True) := ⟨_, rfl⟩
            have hR_ : ∀ W, S_ W W := by intro W; rw [hS_]; exact trivial
            obtain ⟨T, hT⟩ : ∃ T : Nat → FactS S_, ∀ t_, T t_ = ([FactS.eq (.pointer (some ⟨b, 0, none⟩)), FactS.eq (.int .u64 qn), FactS.eq (.pointer (some ⟨wr.heap.size, 1, none⟩)), FactS.eq (.int .u64 qn), FactS.eq (.bool true), FactS.eq (.bool true)] : List (FactS S_)).getD t_ FactS.any := ⟨_, fun _ => rfl⟩
            have hP_ : ∀ i_ v_ (y_ : Nat → Option Value) W_, ([1].contains i_) = false → G (y_ 1) W_ → G (updY y_ i_ v_ 1) W_ := by
              intro i_ v_ y_ W_ hi_ h_
              simp only [List.contains_cons, List.contains_nil, Bool.or_false, beq_eq_false_iff_ne, ne_eq] at hi_
              rw [updY_ne y_ i_ v_ hi_]
              exact h_
            refine region_tabJ [(0, 53), (1, 54), (2, 55), (3, 56), (4, 57), (5, 9)] S_ T (fun y_ W_ => G (y_ 1) W_) (by kernel_rfl) (by kernel_rfl) (by kernel_rfl) (by kernel_rfl) (by kernel_rfl) ?_ ?_ ?_
            · skip
              show G none _
              rw [hG]
              exact .inl ⟨rfl, Chg.of_below (below_dr (Below.refl _ _) _), hss.below (below_dr (Below.refl _ _) _)⟩
            · skip
              refine stepsAll_cons (k := 0) ?_ ?_
              · intro fa fx fW fy hF hN hJ hE K fK
                have hJ : G (fy 1) fW := hJ
                have ev6 : fa.tmps[6]?.getD undef = .pointer (some ⟨b, 0, none⟩) := hF.eo 6 (by kernel_rfl)
                refine wpOp_val rfl (wanted_none rfl) ?_ (fK (.pointer (some ⟨b, 0, none⟩)) fW (hR_ fW) (by rw [hT]; exact rfl) (hP_ 0 _ fy fW rfl hJ))
                clear fK hE hF hJ hN
                go_simp
              refine stepsAll_cons (k := 1) ?_ ?_
              · intro fa fx fW fy hF hN hJ hE K fK
                have hJ : G (fy 1) fW := hJ
                have q0 : fx 0 = .pointer (some ⟨b, 0, none⟩) := by have q := (hE ⟨0, .data⟩ (by simp) rfl).2; rw [hT] at q; exact q
                have ev53 : fa.tmps[53]?.getD undef = .pointer (some ⟨b, 0, none⟩) := (hF.ev 0 53 (by kernel_rfl)).trans q0
                refine wpOp_call rfl (wanted_none rfl) (by go_simp; exact ⟨rfl, rfl⟩) ?_
                rw [hG, hN] at hJ
                obtain ⟨hc0, hs0⟩ := hJ.fst
                refine (HG.out fW hs0 (by have := hc0.size; omega)).mono ?_
                rintro e' w' ⟨rfl, hc, hs⟩
                have b1 : S_ fW w' := by rw [hS_]; trivial
                have j1 : G (some (.int .u64 qn)) w' := by rw [hG]; exact .inr ⟨_, rfl, trivial, hc0.trans hc, hs⟩
                exact ⟨_, rfl, fK (.int .u64 qn) (w') (b1) (by rw [hT]; exact rfl) (j1)⟩
              refine stepsAll_cons (k := 2) ?_ ?_
              · intro fa fx fW fy hF hN hJ hE K fK
                have hJ : G (fy 1) fW := hJ
                have ev8 : fa.tmps[8]?.getD undef = .pointer (some ⟨wr.heap.size, 0, none⟩) := hF.eo 8 (by kernel_rfl)
                refine wpOp_val rfl (wanted_none rfl) ?_ (fK (.pointer (some ⟨wr.heap.size, 1, none⟩)) fW (hR_ fW) (by rw [hT]; exact rfl) (hP_ 2 _ fy fW rfl hJ))
                clear fK hE hF hJ hN
                go_simp
              refine stepsAll_cons (k := 3) ?_ ?_
              · intro fa fx fW fy hF hN hJ hE K fK
                have hJ : G (fy 1) fW := hJ
                have q2 : fx 2 = .pointer (some ⟨wr.heap.size, 1, none⟩) := by have q := (hE ⟨2, .data⟩ (by simp) rfl).2; rw [hT] at q; exact q
                have ev55 : fa.tmps[55]?.getD undef = .pointer (some ⟨wr.heap.size, 1, none⟩) := (hF.ev 2 55 (by kernel_rfl)).trans q2
                have hJ2 := hJ
                rw [hG] at hJ2
                have y0 := hJ2.chg.cell xf hnb
                clear hJ2
                refine wpOp_val rfl (wanted_none rfl) ?_ (fK (.int .u64 qn) fW (hR_ fW) (by rw [hT]; exact rfl) (hP_ 3 _ fy fW rfl hJ))
                clear fK hE hF hJ hN
                go_simp
              refine stepsAll_cons (k := 4) ?_ ?_
              · intro fa fx fW fy hF hN hJ hE K fK
                have hJ : G (fy 1) fW := hJ
                have q1 : fx 1 = .int .u64 qn := by have q := (hE ⟨1, .data⟩ (by simp) rfl).2; rw [hT] at q; exact q
                have y1 : fy 1 = some (fx 1) := (hE ⟨1, .data⟩ (by simp) rfl).1
                have q3 : fx 3 = .int .u64 qn := by have q := (hE ⟨3, .data⟩ (by simp) rfl).2; rw [hT] at q; exact q
                have ev54 : fa.tmps[54]?.getD undef = .int .u64 qn := (hF.ev 1 54 (by kernel_rfl)).trans q1
                have ev56 : fa.tmps[56]?.getD undef = .int .u64 qn := (hF.ev 3 56 (by kernel_rfl)).trans q3
                refine wpOp_val rfl (wanted_none rfl) ?_ (fK (.bool true) fW (hR_ fW) (by rw [hT]; exact rfl) (hP_ 4 _ fy fW rfl hJ))
                clear fK hE hF hJ hN
                go_simp
              refine stepsAll_cons (k := 5) ?_ ?_
              · intro fa fx fW fy hF hN hJ hE K fK
                have hJ : G (fy 1) fW := hJ
                have q4 : fx 4 = .bool true := by have q := (hE ⟨4, .data⟩ (by simp) rfl).2; rw [hT] at q; exact q
                have ev57 : fa.tmps[57]?.getD undef = .bool true := (hF.ev 4 57 (by kernel_rfl)).trans q4
                refine wpOp_val rfl (wanted_none rfl) ?_ (fK (.bool true) fW (hR_ fW) (by rw [hT]; exact rfl) (hP_ 5 _ fy fW rfl hJ))
                clear fK hE hF hJ hN
                go_simp
              exact stepsAll_nil
            intro fa fx fW fy hF hJ0 hx
            have y1 : fy 1 = some (fx 1) := (hx 1 (by decide)).1
            have hJ : G (fy 1) fW := hJ0
            clear hJ0
            rw [y1] at hJ
            have q5 : fx 5 = .bool true := by have q := (hx 5 (by decide)).2; rw [hT] at q; exact q
            have ev9 : fa.tmps[9]?.getD undef = .bool true := (hF.ev 5 9 (by kernel_rfl)).trans q5
            rw [hF.eq]
            clear hF hx hT T hP_ hR_ y1
            simp only [putAll, Act.put, List.setIfInBounds_toArray, List.set_cons_zero, List.set_cons_succ, q5]
            rw [hG] at hJ
            obtain ⟨_, hc9, hs9⟩ := hJ.snd
            have hB9 : Below w.heap.size w fW := hc9.toBelow hbw1 hbw1.size (fun k hk => by omega)
            have HER := Lib.hid (srcErr b 0 rest fW hs9)
            go_wp2_with (go_at_call 23; (with_reducible refine HER.out.mono ?_); rintro e w3 ⟨rfl, rfl⟩)
            go_roundw
            case rel => exact ⟨k + 1, rest, by omega, by go_num, hs9, (hch.trans (.of_below hal)).trans hc9, hB9, HRS.out, HRU.out, HRL.out⟩
            case measure => simp only [intOf]; omega
          by_cases h1 : qk = 1
          · subst h1
            have HE : Hid (bs = enc (zigN qi) ++ rest) := by show _ = _; rw [HBB.out]; simp [encV, bytesOf_length, flagN]
            have HG : Hid (∀ W, Src w1.heap.size W b bs 0 → w1.heap.size ≤ W.heap.size → Calls Try.prog 24 #[.pointer (some ⟨b, 0, none⟩), .int .i64 (-9223372036854775808), .int .i64 9223372036854775807] W fun e w' => e = .returned (.int .i64 qi) ∧ Chg (fun k => k = b) W w' ∧ Src w1.heap.size w' b rest 0) := by
              intro W h hB
              have h9 := HU.out
              have h8 := HBL.out
              rw [HE.out] at h h9 h8
              have h1 := srcInt' (B := w1.heap.size) b (-9223372036854775808) 9223372036854775807 0 _ W h hB h9
              rw [gotE_ok (f := fun bs => withinM bs (-9223372036854775808) 9223372036854775807) (withinM_enc HQK.out.i rest)] at h1
              exact h1
            clear HE
            go_wp2
            obtain ⟨W1, hW1⟩ : ∃ W1, W1 = wr.alloc (.cells #[.int .i64 1, .int .u64 qn, .int .i64 qi, .string qs, .slice qA qm qc] (26 : Nat)) := ⟨_, rfl⟩
            have hal : Below wr.heap.size wr W1 := by rw [hW1]; exact below_al (Below.refl _ _) _
            have xf : W1.cell? ⟨wr.heap.size, 2, none⟩ = some (.int .i64 qi) := by rw [hW1]; go_simp
            rw [← hW1]
            have hbw1 : Below w.heap.size w W1 := below_then hBr2 hBr2.size hal
            have hsz2 := hal.size
            have hnb : wr.heap.size ≠ b := by omega
            have hss := hsr.below hal
            clear hW1 c0 c1 c2 c3 c4
            obtain ⟨G, hG⟩ : ∃ G : Option Value → World → Prop, ∀ x W, G x W = StepG w1.heap.size b W1 bs rest (fun v W => True) x W := ⟨_, fun _ _ => rfl⟩
            obtain ⟨S_, hS_⟩ : ∃ S_ : World → World → Prop, S_ = (fun _ _ => True) := ⟨_, rfl⟩
            have hR_ : ∀ W, S_ W W := by intro W; rw [hS_]; exact trivial
            obtain ⟨T, hT⟩ : ∃ T : Nat → FactS S_, ∀ t_, T t_ = ([FactS.eq (.pointer (some ⟨b, 0, none⟩)), FactS.eq (.int .i64 qi), FactS.eq (.pointer (some ⟨wr.heap.size, 2, none⟩)), FactS.eq (.int .i64 qi), FactS.eq (.bool true), FactS.eq (.bool true)] : List (FactS S_)).getD t_ FactS.any := ⟨_, fun _ => rfl⟩
            have hP_ : ∀ i_ v_ (y_ : Nat → Option Value) W_, ([1].contains i_) = false → G (y_ 1) W_ → G (updY y_ i_ v_ 1) W_ := by
              intro i_ v_ y_ W_ hi_ h_
              simp only [List.contains_cons, List.contains_nil, Bool.or_false, beq_eq_false_iff_ne, ne_eq] at hi_
              rw [updY_ne y_ i_ v_ hi_]
              exact h_
            refine region_tabJ [(0, 60), (1, 61), (2, 62), (3, 63), (4, 64), (5, 9)] S_ T (fun y_ W_ => G (y_ 1) W_) (by kernel_rfl) (by kernel_rfl) (by kernel_rfl) (by kernel_rfl) (by kernel_rfl) ?_ ?_ ?_
            · skip
              show G none _
              rw [hG]
              exact .inl ⟨rfl, Chg.of_below (below_dr (Below.refl _ _) _), hss.below (below_dr (Below.refl _ _) _)⟩
            · skip
              refine stepsAll_cons (k := 0) ?_ ?_
              · intro fa fx fW fy hF hN hJ hE K fK
                have hJ : G (fy 1) fW := hJ
                have ev6 : fa.tmps[6]?.getD undef = .pointer (some ⟨b, 0, none⟩) := hF.eo 6 (by kernel_rfl)
                refine wpOp_val rfl (wanted_none rfl) ?_ (fK (.pointer (some ⟨b, 0, none⟩)) fW (hR_ fW) (by rw [hT]; exact rfl) (hP_ 0 _ fy fW rfl hJ))
                clear fK hE hF hJ hN
                go_simp
              refine stepsAll_cons (k := 1) ?_ ?_
              · intro fa fx fW fy hF hN hJ hE K fK
                have hJ : G (fy 1) fW := hJ
                have q0 : fx 0 = .pointer (some ⟨b, 0, none⟩) := by have q := (hE ⟨0, .data⟩ (by simp) rfl).2; rw [hT] at q; exact q
                have ev60 : fa.tmps[60]?.getD undef = .pointer (some ⟨b, 0, none⟩) := (hF.ev 0 60 (by kernel_rfl)).trans q0
                refine wpOp_call rfl (wanted_none rfl) (by go_simp; exact ⟨rfl, rfl⟩) ?_
                rw [hG, hN] at hJ
                obtain ⟨hc0, hs0⟩ := hJ.fst
                refine (HG.out fW hs0 (by have := hc0.size; omega)).mono ?_
                rintro e' w' ⟨rfl, hc, hs⟩
                have b1 : S_ fW w' := by rw [hS_]; trivial
                have j1 : G (some (.int .i64 qi)) w' := by rw [hG]; exact .inr ⟨_, rfl, trivial, hc0.trans hc, hs⟩
                exact ⟨_, rfl, fK (.int .i64 qi) (w') (b1) (by rw [hT]; exact rfl) (j1)⟩
              refine stepsAll_cons (k := 2) ?_ ?_
              · intro fa fx fW fy hF hN hJ hE K fK
                have hJ : G (fy 1) fW := hJ
                have ev8 : fa.tmps[8]?.getD undef = .pointer (some ⟨wr.heap.size, 0, none⟩) := hF.eo 8 (by kernel_rfl)
                refine wpOp_val rfl (wanted_none rfl) ?_ (fK (.pointer (some ⟨wr.heap.size, 2, none⟩)) fW (hR_ fW) (by rw [hT]; exact rfl) (hP_ 2 _ fy fW rfl hJ))
                clear fK hE hF hJ hN
                go_simp
              refine stepsAll_cons (k := 3) ?_ ?_
              · intro fa fx fW fy hF hN hJ hE K fK
                have hJ : G (fy 1) fW := hJ
                have q2 : fx 2 = .pointer (some ⟨wr.heap.size, 2, none⟩) := by have q := (hE ⟨2, .data⟩ (by simp) rfl).2; rw [hT] at q; exact q
                have ev62 : fa.tmps[62]?.getD undef = .pointer (some ⟨wr.heap.size, 2, none⟩) := (hF.ev 2 62 (by kernel_rfl)).trans q2
                have hJ2 := hJ
                rw [hG] at hJ2
                have y0 := hJ2.chg.cell xf hnb
                clear hJ2
                refine wpOp_val rfl (wanted_none rfl) ?_ (fK (.int .i64 qi) fW (hR_ fW) (by rw [hT]; exact rfl) (hP_ 3 _ fy fW rfl hJ))
                clear fK hE hF hJ hN
                go_simp
              refine stepsAll_cons (k := 4) ?_ ?_
              · intro fa fx fW fy hF hN hJ hE K fK
                have hJ : G (fy 1) fW := hJ
                have q1 : fx 1 = .int .i64 qi := by have q := (hE ⟨1, .data⟩ (by simp) rfl).2; rw [hT] at q; exact q
                have y1 : fy 1 = some (fx 1) := (hE ⟨1, .data⟩ (by simp) rfl).1
                have q3 : fx 3 = .int .i64 qi := by have q := (hE ⟨3, .data⟩ (by simp) rfl).2; rw [hT] at q; exact q
                have ev61 : fa.tmps[61]?.getD undef = .int .i64 qi := (hF.ev 1 61 (by kernel_rfl)).trans q1
                have ev63 : fa.tmps[63]?.getD undef = .int .i64 qi := (hF.ev 3 63 (by kernel_rfl)).trans q3
                refine wpOp_val rfl (wanted_none rfl) ?_ (fK (.bool true) fW (hR_ fW) (by rw [hT]; exact rfl) (hP_ 4 _ fy fW rfl hJ))
                clear fK hE hF hJ hN
                go_simp
              refine stepsAll_cons (k := 5) ?_ ?_
              · intro fa fx fW fy hF hN hJ hE K fK
                have hJ : G (fy 1) fW := hJ
                have q4 : fx 4 = .bool true := by have q := (hE ⟨4, .data⟩ (by simp) rfl).2; rw [hT] at q; exact q
                have ev64 : fa.tmps[64]?.getD undef = .bool true := (hF.ev 4 64 (by kernel_rfl)).trans q4
                refine wpOp_val rfl (wanted_none rfl) ?_ (fK (.bool true) fW (hR_ fW) (by rw [hT]; exact rfl) (hP_ 5 _ fy fW rfl hJ))
                clear fK hE hF hJ hN
                go_simp
              exact stepsAll_nil
            intro fa fx fW fy hF hJ0 hx
            have y1 : fy 1 = some (fx 1) := (hx 1 (by decide)).1
            have hJ : G (fy 1) fW := hJ0
            clear hJ0
            rw [y1] at hJ
            have q5 : fx 5 = .bool true := by have q := (hx 5 (by decide)).2; rw [hT] at q; exact q
            have ev9 : fa.tmps[9]?.getD undef = .bool true := (hF.ev 5 9 (by kernel_rfl)).trans q5
            rw [hF.eq]
            clear hF hx hT T hP_ hR_ y1
            simp only [putAll, Act.put, List.setIfInBounds_toArray, List.set_cons_zero, List.set_cons_succ, q5]
            rw [hG] at hJ
            obtain ⟨_, hc9, hs9⟩ := hJ.snd
            have hB9 : Below w.heap.size w fW := hc9.toBelow hbw1 hbw1.size (fun k hk => by omega)
            have HER := Lib.hid (srcErr b 0 rest fW hs9)
            go_wp2_with (go_at_call 23; (with_reducible refine HER.out.mono ?_); rintro e w3 ⟨rfl, rfl⟩)
            go_roundw
            case rel => exact ⟨k + 1, rest, by omega, by go_num, hs9, (hch.trans (.of_below hal)).trans hc9, hB9, HRS.out, HRU.out, HRL.out⟩
            case measure => simp only [intOf]; omega
          by_cases h2 : qk = 2
          · subst h2
            have HE : Hid (bs = enc (bytesOf qs).length ++ bytesOf qs ++ rest) := by show _ = _; rw [HBB.out]; simp [encV, bytesOf_length, flagN]
            have HG : Hid (∀ W, Src w1.heap.size W b bs 0 → w1.heap.size ≤ W.heap.size → Calls Try.prog 25 #[.pointer (some ⟨b, 0, none⟩), .int .i64 200] W fun e w' => e = .returned (.string qs) ∧ Chg (fun k => k = b) W w' ∧ Src w1.heap.size w' b rest 0) := by
              intro W h hB
              have h9 := HU.out
              have h8 := HBL.out
              rw [HE.out] at h h9 h8
              have h1 := srcText' (B := w1.heap.size) b 200 0 _ W h hB h9 (by unfold I64; omega)
              rw [gotE_ok (f := fun bs => textM bs 200) (textM_enc (by rw [bytesOf_length]; exact HSM.out.1) rest)] at h1
              unfold Tells at h1
              simp only [str_bytes] at h1
              exact h1
            clear HE
            go_wp2
            obtain ⟨W1, hW1⟩ : ∃ W1, W1 = wr.alloc (.cells #[.int .i64 2, .int .u64 qn, .int .i64 qi, .string qs, .slice qA qm qc] (26 : Nat)) := ⟨_, rfl⟩
            have hal : Below wr.heap.size wr W1 := by rw [hW1]; exact below_al (Below.refl _ _) _
            have xf : W1.cell? ⟨wr.heap.size, 3, none⟩ = some (.string qs) := by rw [hW1]; go_simp
            rw [← hW1]
            have hbw1 : Below w.heap.size w W1 := below_then hBr2 hBr2.size hal
            have hsz2 := hal.size
            have hnb : wr.heap.size ≠ b := by omega
            have hss := hsr.below hal
            clear hW1 c0 c1 c2 c3 c4
            obtain ⟨G, hG⟩ : ∃ G : Option Value → World → Prop, ∀ x W, G x W = StepG w1.heap.size b W1 bs rest (fun v W => True) x W := ⟨_, fun _ _ => rfl⟩
            obtain ⟨S_, hS_⟩ : ∃ S_ : World → World → Prop, S_ = (fun _ _ => True) := ⟨_, rfl⟩
            have hR_ : ∀ W, S_ W W := by intro W; rw [hS_]; exact trivial
            obtain ⟨T, hT⟩ : ∃ T : Nat → FactS S_, ∀ t_, T t_ = ([FactS.eq (.pointer (some ⟨b, 0, none⟩)), FactS.eq (.string qs), FactS.eq (.pointer (some ⟨wr.heap.size, 3, none⟩)), FactS.eq (.string qs), FactS.eq (.bool true), FactS.eq (.bool true)] : List (FactS S_)).getD t_ FactS.any := ⟨_, fun _ => rfl⟩
            have hP_ : ∀ i_ v_ (y_ : Nat → Option Value) W_, ([1].contains i_) = false → G (y_ 1) W_ → G (updY y_ i_ v_ 1) W_ := by
              intro i_ v_ y_ W_ hi_ h_
              simp only [List.contains_cons, List.contains_nil, Bool.or_false, beq_eq_false_iff_ne, ne_eq] at hi_
              rw [updY_ne y_ i_ v_ hi_]
              exact h_
            refine region_tabJ [(0, 67), (1, 68), (2, 69), (3, 70), (4, 71), (5, 9)] S_ T (fun y_ W_ => G (y_ 1) W_) (by kernel_rfl) (by kernel_rfl) (by kernel_rfl) (by kernel_rfl) (by kernel_rfl) ?_ ?_ ?_
            · skip
              show G none _
              rw [hG]
              exact .inl ⟨rfl, Chg.of_below (below_dr (Below.refl _ _) _), hss.below (below_dr (Below.refl _ _) _)⟩
            · skip
              refine stepsAll_cons (k := 0) ?_ ?_
              · intro fa fx fW fy hF hN hJ hE K fK
                have hJ : G (fy 1) fW := hJ
                have ev6 : fa.tmps[6]?.getD undef = .pointer (some ⟨b, 0, none⟩) := hF.eo 6 (by kernel_rfl)
                refine wpOp_val rfl (wanted_none rfl) ?_ (fK (.pointer (some ⟨b, 0, none⟩)) fW (hR_ fW) (by rw [hT]; exact rfl) (hP_ 0 _ fy fW rfl hJ))
                clear fK hE hF hJ hN
                go_simp
              refine stepsAll_cons (k := 1) ?_ ?_
              · intro fa fx fW fy hF hN hJ hE K fK
                have hJ : G (fy 1) fW := hJ
                have q0 : fx 0 = .pointer (some ⟨b, 0, none⟩) := by have q := (hE ⟨0, .data⟩ (by simp) rfl).2; rw [hT] at q; exact q
                have ev67 : fa.tmps[67]?.getD undef = .pointer (some ⟨b, 0, none⟩) := (hF.ev 0 67 (by kernel_rfl)).trans q0
                refine wpOp_call rfl (wanted_none rfl) (by go_simp; exact ⟨rfl, rfl⟩) ?_
                rw [hG, hN] at hJ
                obtain ⟨hc0, hs0⟩ := hJ.fst
                refine (HG.out fW hs0 (by have := hc0.size; omega)).mono ?_
                rintro e' w' ⟨rfl, hc, hs⟩
                have b1 : S_ fW w' := by rw [hS_]; trivial
                have j1 : G (some (.string qs)) w' := by rw [hG]; exact .inr ⟨_, rfl, trivial, hc0.trans hc, hs⟩
                exact ⟨_, rfl, fK (.string qs) (w') (b1) (by rw [hT]; exact rfl) (j1)⟩
              refine stepsAll_cons (k := 2) ?_ ?_
              · intro fa fx fW fy hF hN hJ hE K fK
                have hJ : G (fy 1) fW := hJ
                have ev8 : fa.tmps[8]?.getD undef = .pointer (some ⟨wr.heap.size, 0, none⟩) := hF.eo 8 (by kernel_rfl)
                refine wpOp_val rfl (wanted_none rfl) ?_ (fK (.pointer (some ⟨wr.heap.size, 3, none⟩)) fW (hR_ fW) (by rw [hT]; exact rfl) (hP_ 2 _ fy fW rfl hJ))
                clear fK hE hF hJ hN
                go_simp
              refine stepsAll_cons (k := 3) ?_ ?_
              · intro fa fx fW fy hF hN hJ hE K fK
                have hJ : G (fy 1) fW := hJ
                have q2 : fx 2 = .pointer (some ⟨wr.heap.size, 3, none⟩) := by have q := (hE ⟨2, .data⟩ (by simp) rfl).2; rw [hT] at q; exact q
                have ev69 : fa.tmps[69]?.getD undef = .pointer (some ⟨wr.heap.size, 3, none⟩) := (hF.ev 2 69 (by kernel_rfl)).trans q2
                have hJ2 := hJ
                rw [hG] at hJ2
                have y0 := hJ2.chg.cell xf hnb
                clear hJ2
                refine wpOp_val rfl (wanted_none rfl) ?_ (fK (.string qs) fW (hR_ fW) (by rw [hT]; exact rfl) (hP_ 3 _ fy fW rfl hJ))
                clear fK hE hF hJ hN
                go_simp
              refine stepsAll_cons (k := 4) ?_ ?_
              · intro fa fx fW fy hF hN hJ hE K fK
                have hJ : G (fy 1) fW := hJ
                have q1 : fx 1 = .string qs := by have q := (hE ⟨1, .data⟩ (by simp) rfl).2; rw [hT] at q; exact q
                have y1 : fy 1 = some (fx 1) := (hE ⟨1, .data⟩ (by simp) rfl).1
                have q3 : fx 3 = .string qs := by have q := (hE ⟨3, .data⟩ (by simp) rfl).2; rw [hT] at q; exact q
                have ev68 : fa.tmps[68]?.getD undef = .string qs := (hF.ev 1 68 (by kernel_rfl)).trans q1
                have ev70 : fa.tmps[70]?.getD undef = .string qs := (hF.ev 3 70 (by kernel_rfl)).trans q3
                refine wpOp_val rfl (wanted_none rfl) ?_ (fK (.bool true) fW (hR_ fW) (by rw [hT]; exact rfl) (hP_ 4 _ fy fW rfl hJ))
                clear fK hE hF hJ hN
                go_simp
              refine stepsAll_cons (k := 5) ?_ ?_
              · intro fa fx fW fy hF hN hJ hE K fK
                have hJ : G (fy 1) fW := hJ
                have q4 : fx 4 = .bool true := by have q := (hE ⟨4, .data⟩ (by simp) rfl).2; rw [hT] at q; exact q
                have ev71 : fa.tmps[71]?.getD undef = .bool true := (hF.ev 4 71 (by kernel_rfl)).trans q4
                refine wpOp_val rfl (wanted_none rfl) ?_ (fK (.bool true) fW (hR_ fW) (by rw [hT]; exact rfl) (hP_ 5 _ fy fW rfl hJ))
                clear fK hE hF hJ hN
                go_simp
              exact stepsAll_nil
            intro fa fx fW fy hF hJ0 hx
            have y1 : fy 1 = some (fx 1) := (hx 1 (by decide)).1
            have hJ : G (fy 1) fW := hJ0
            clear hJ0
            rw [y1] at hJ
            have q5 : fx 5 = .bool true := by have q := (hx 5 (by decide)).2; rw [hT] at q; exact q
            have ev9 : fa.tmps[9]?.getD undef = .bool true := (hF.ev 5 9 (by kernel_rfl)).trans q5
            rw [hF.eq]
            clear hF hx hT T hP_ hR_ y1
            simp only [putAll, Act.put, List.setIfInBounds_toArray, List.set_cons_zero, List.set_cons_succ, q5]
            rw [hG] at hJ
            obtain ⟨_, hc9, hs9⟩ := hJ.snd
            have hB9 : Below w.heap.size w fW := hc9.toBelow hbw1 hbw1.size (fun k hk => by omega)
            have HER := Lib.hid (srcErr b 0 rest fW hs9)
            go_wp2_with (go_at_call 23; (with_reducible refine HER.out.mono ?_); rintro e w3 ⟨rfl, rfl⟩)
            go_roundw
            case rel => exact ⟨k + 1, rest, by omega, by go_num, hs9, (hch.trans (.of_below hal)).trans hc9, hB9, HRS.out, HRU.out, HRL.out⟩
            case measure => simp only [intOf]; omega
          by_cases h3 : qk = 3
          · subst h3
            have HE : Hid (bs = (if decide (0 < qi) then 1 else 0) :: rest) := by show _ = _; rw [HBB.out]; simp [encV, bytesOf_length, flagN]
            have HG : Hid (∀ W, Src w1.heap.size W b bs 0 → w1.heap.size ≤ W.heap.size → Calls Try.prog 26 #[.pointer (some ⟨b, 0, none⟩)] W fun e w' => e = .returned (.bool (decide (0 < qi))) ∧ Chg (fun k => k = b) W w' ∧ Src w1.heap.size w' b rest 0) := by
              intro W h hB
              have h9 := HU.out
              have h8 := HBL.out
              rw [HE.out] at h h9 h8
              have h1 := srcFlag' (B := w1.heap.size) b 0 _ W h hB h9
              rw [gotE_ok (f := flagM) (flagM_enc (decide (0 < qi)) rest)] at h1
              exact h1
            clear HE
            go_wp2
            obtain ⟨W1, hW1⟩ : ∃ W1, W1 = wr.alloc (.cells #[.int .i64 3, .int .u64 qn, .int .i64 qi, .string qs, .slice qA qm qc] (26 : Nat)) := ⟨_, rfl⟩
            have hal : Below wr.heap.size wr W1 := by rw [hW1]; exact below_al (Below.refl _ _) _
            have xf : W1.cell? ⟨wr.heap.size, 2, none⟩ = some (.int .i64 qi) := by rw [hW1]; go_simp
            rw [← hW1]
            have hbw1 : Below w.heap.size w W1 := below_then hBr2 hBr2.size hal
            have hsz2 := hal.size
            have hnb : wr.heap.size ≠ b := by omega
            have hss := hsr.below hal
            clear hW1 c0 c1 c2 c3 c4
            obtain ⟨G, hG⟩ : ∃ G : Option Value → World → Prop, ∀ x W, G x W = StepG w1.heap.size b W1 bs rest (fun v W => True) x W := ⟨_, fun _ _ => rfl⟩
            obtain ⟨S_, hS_⟩ : ∃ S_ : World → World → Prop, S_ = (fun _ _ => True) := ⟨_, rfl⟩
            have hR_ : ∀ W, S_ W W := by intro W; rw [hS_]; exact trivial
            obtain ⟨T, hT⟩ : ∃ T : Nat → FactS S_, ∀ t_, T t_ = ([FactS.eq (.pointer (some ⟨b, 0, none⟩)), FactS.eq (.bool (decide (0 < qi))), FactS.eq (.pointer (some ⟨wr.heap.size, 2, none⟩)), FactS.eq (.int .i64 qi), FactS.eq (.bool (decide (0 < qi))), FactS.eq (.bool true), FactS.eq (.bool true)] : List (FactS S_)).getD t_ FactS.any := ⟨_, fun _ => rfl⟩
            have hP_ : ∀ i_ v_ (y_ : Nat → Option Value) W_, ([1].contains i_) = false → G (y_ 1) W_ → G (updY y_ i_ v_ 1) W_ := by
              intro i_ v_ y_ W_ hi_ h_
              simp only [List.contains_cons, List.contains_nil, Bool.or_false, beq_eq_false_iff_ne, ne_eq] at hi_
              rw [updY_ne y_ i_ v_ hi_]
              exact h_
            refine region_tabJ [(0, 74), (1, 75), (2, 76), (3, 77), (4, 78), (5, 79), (6, 9)] S_ T (fun y_ W_ => G (y_ 1) W_) (by kernel_rfl) (by kernel_rfl) (by kernel_rfl) (by kernel_rfl) (by kernel_rfl) ?_ ?_ ?_
            · skip
              show G none _
              rw [hG]
              exact .inl ⟨rfl, Chg.of_below (below_dr (Below.refl _ _) _), hss.below (below_dr (Below.refl _ _) _)⟩
            · skip
              refine stepsAll_cons (k := 0) ?_ ?_
              · intro fa fx fW fy hF hN hJ hE K fK
                have hJ : G (fy 1) fW := hJ
                have ev6 : fa.tmps[6]?.getD undef = .pointer (some ⟨b, 0, none⟩) := hF.eo 6 (by kernel_rfl)
                refine wpOp_val rfl (wanted_none rfl) ?_ (fK (.pointer (some ⟨b, 0, none⟩)) fW (hR_ fW) (by rw [hT]; exact rfl) (hP_ 0 _ fy fW rfl hJ))
                clear fK hE hF hJ hN
                go_simp
              refine stepsAll_cons (k := 1) ?_ ?_
              · intro fa fx fW fy hF hN hJ hE K fK
                have hJ : G (fy 1) fW := hJ
                have q0 : fx 0 = .pointer (some ⟨b, 0, none⟩) := by have q := (hE ⟨0, .data⟩ (by simp) rfl).2; rw [hT] at q; exact q
                have ev74 : fa.tmps[74]?.getD undef = .pointer (some ⟨b, 0, none⟩) := (hF.ev 0 74 (by kernel_rfl)).trans q0
                refine wpOp_call rfl (wanted_none rfl) (by go_simp; exact ⟨rfl, rfl⟩) ?_
                rw [hG, hN] at hJ
                obtain ⟨hc0, hs0⟩ := hJ.fst
                refine (HG.out fW hs0 (by have := hc0.size; omega)).mono ?_
                rintro e' w' ⟨rfl, hc, hs⟩
                have b1 : S_ fW w' := by rw [hS_]; trivial
                have j1 : G (some (.bool (decide (0 < qi)))) w' := by rw [hG]; exact .inr ⟨_, rfl, trivial, hc0.trans hc, hs⟩
                exact ⟨_, rfl, fK (.bool (decide (0 < qi))) (w') (b1) (by rw [hT]; exact rfl) (j1)⟩
              refine stepsAll_cons (k := 2) ?_ ?_
              · intro fa fx fW fy hF hN hJ hE K fK
                have hJ : G (fy 1) fW := hJ
                have ev8 : fa.tmps[8]?.getD undef = .pointer (some ⟨wr.heap.size, 0, none⟩) := hF.eo 8 (by kernel_rfl)
                refine wpOp_val rfl (wanted_none rfl) ?_ (fK (.pointer (some ⟨wr.heap.size, 2, none⟩)) fW (hR_ fW) (by rw [hT]; exact rfl) (hP_ 2 _ fy fW rfl hJ))
                clear fK hE hF hJ hN
                go_simp
              refine stepsAll_cons (k := 3) ?_ ?_
              · intro fa fx fW fy hF hN hJ hE K fK
                have hJ : G (fy 1) fW := hJ
                have q2 : fx 2 = .pointer (some ⟨wr.heap.size, 2, none⟩) := by have q := (hE ⟨2, .data⟩ (by simp) rfl).2; rw [hT] at q; exact q
                have ev76 : fa.tmps[76]?.getD undef = .pointer (some ⟨wr.heap.size, 2, none⟩) := (hF.ev 2 76 (by kernel_rfl)).trans q2
                have hJ2 := hJ
                rw [hG] at hJ2
                have y0 := hJ2.chg.cell xf hnb
                clear hJ2
                refine wpOp_val rfl (wanted_none rfl) ?_ (fK (.int .i64 qi) fW (hR_ fW) (by rw [hT]; exact rfl) (hP_ 3 _ fy fW rfl hJ))
                clear fK hE hF hJ hN
                go_simp
              refine stepsAll_cons (k := 4) ?_ ?_
              · intro fa fx fW fy hF hN hJ hE K fK
                have hJ : G (fy 1) fW := hJ
                have q3 : fx 3 = .int .i64 qi := by have q := (hE ⟨3, .data⟩ (by simp) rfl).2; rw [hT] at q; exact q
                have ev77 : fa.tmps[77]?.getD undef = .int .i64 qi := (hF.ev 3 77 (by kernel_rfl)).trans q3
                refine wpOp_val rfl (wanted_none rfl) ?_ (fK (.bool (decide (0 < qi))) fW (hR_ fW) (by rw [hT]; exact rfl) (hP_ 4 _ fy fW rfl hJ))
                clear fK hE hF hJ hN
                go_simp
              refine stepsAll_cons (k := 5) ?_ ?_
              · intro fa fx fW fy hF hN hJ hE K fK
                have hJ : G (fy 1) fW := hJ
                have q1 : fx 1 = .bool (decide (0 < qi)) := by have q := (hE ⟨1, .data⟩ (by simp) rfl).2; rw [hT] at q; exact q
                have y1 : fy 1 = some (fx 1) := (hE ⟨1, .data⟩ (by simp) rfl).1
                have q4 : fx 4 = .bool (decide (0 < qi)) := by have q := (hE ⟨4, .data⟩ (by simp) rfl).2; rw [hT] at q; exact q
                have ev75 : fa.tmps[75]?.getD undef = .bool (decide (0 < qi)) := (hF.ev 1 75 (by kernel_rfl)).trans q1
                have ev78 : fa.tmps[78]?.getD undef = .bool (decide (0 < qi)) := (hF.ev 4 78 (by kernel_rfl)).trans q4
                refine wpOp_val rfl (wanted_none rfl) ?_ (fK (.bool true) fW (hR_ fW) (by rw [hT]; exact rfl) (hP_ 5 _ fy fW rfl hJ))
                clear fK hE hF hJ hN
                go_simp
              refine stepsAll_cons (k := 6) ?_ ?_
              · intro fa fx fW fy hF hN hJ hE K fK
                have hJ : G (fy 1) fW := hJ
                have q5 : fx 5 = .bool true := by have q := (hE ⟨5, .data⟩ (by simp) rfl).2; rw [hT] at q; exact q
                have ev79 : fa.tmps[79]?.getD undef = .bool true := (hF.ev 5 79 (by kernel_rfl)).trans q5
                refine wpOp_val rfl (wanted_none rfl) ?_ (fK (.bool true) fW (hR_ fW) (by rw [hT]; exact rfl) (hP_ 6 _ fy fW rfl hJ))
                clear fK hE hF hJ hN
                go_simp
              exact stepsAll_nil
            intro fa fx fW fy hF hJ0 hx
            have y1 : fy 1 = some (fx 1) := (hx 1 (by decide)).1
            have hJ : G (fy 1) fW := hJ0
            clear hJ0
            rw [y1] at hJ
            have q6 : fx 6 = .bool true := by have q := (hx 6 (by decide)).2; rw [hT] at q; exact q
            have ev9 : fa.tmps[9]?.getD undef = .bool true := (hF.ev 6 9 (by kernel_rfl)).trans q6
            rw [hF.eq]
            clear hF hx hT T hP_ hR_ y1
            simp only [putAll, Act.put, List.setIfInBounds_toArray, List.set_cons_zero, List.set_cons_succ, q6]
            rw [hG] at hJ
            obtain ⟨_, hc9, hs9⟩ := hJ.snd
            have hB9 : Below w.heap.size w fW := hc9.toBelow hbw1 hbw1.size (fun k hk => by omega)
            have HER := Lib.hid (srcErr b 0 rest fW hs9)
            go_wp2_with (go_at_call 23; (with_reducible refine HER.out.mono ?_); rintro e w3 ⟨rfl, rfl⟩)
            go_roundw
            case rel => exact ⟨k + 1, rest, by omega, by go_num, hs9, (hch.trans (.of_below hal)).trans hc9, hB9, HRS.out, HRU.out, HRL.out⟩
            case measure => simp only [intOf]; omega
          by_cases h4 : qk = 4
          · subst h4
            have HE : Hid (bs = enc ql.length ++ encs ql ++ rest) := by show _ = _; rw [HBB.out, show ql.length = qm from rds_len HQK.out.row]; simp [encV, bytesOf_length, flagN]
            have HG : Hid (∀ W, Src w1.heap.size W b bs 0 → w1.heap.size ≤ W.heap.size → Calls Try.prog 27 #[.pointer (some ⟨b, 0, none⟩), .int .i64 50, .int .i64 (-9223372036854775808), .int .i64 9223372036854775807] W fun e w' => ∃ A n c, e = .returned (.slice A n c) ∧ Rds w' 1 A n c (nums .i64 ql) ∧ Chg (fun k => k = b) W w' ∧ Src w1.heap.size w' b rest 0) := by
              intro W h hB
              have h9 := HU.out
              have h8 := HBL.out
              rw [HE.out] at h h9 h8
              have h7 : ql.length = qm := rds_len HQK.out.row
              have h1 := srcInts' (B := w1.heap.size) b 50 (-9223372036854775808) 9223372036854775807 0 _ W h hB h9 h8 (by unfold I64; omega)
              rw [gotE_ok (f := fun bs => intsM bs 50 (-9223372036854775808) 9223372036854775807) (intsM_enc (by rw [h7]; exact HSM.out.2) HQK.out.l rest)] at h1
              exact h1.mono fun e w' ⟨A1, n1, c1, h2, h3, _, h4, h5⟩ => ⟨A1, n1, c1, h2, h3, h4, h5⟩
            clear HE
            go_wp2
            obtain ⟨W1, hW1⟩ : ∃ W1, W1 = wr.alloc (.cells #[.int .i64 4, .int .u64 qn, .int .i64 qi, .string qs, .slice qA qm qc] (26 : Nat)) := ⟨_, rfl⟩
            have hal : Below wr.heap.size wr W1 := by rw [hW1]; exact below_al (Below.refl _ _) _
            have xf : W1.cell? ⟨wr.heap.size, 4, none⟩ = some (.slice qA qm qc) := by rw [hW1]; go_simp
            rw [← hW1]
            have hbw1 : Below w.heap.size w W1 := below_then hBr2 hBr2.size hal
            have hsz2 := hal.size
            have hnb : wr.heap.size ≠ b := by omega
            have hss := hsr.below hal
            clear hW1 c0 c1 c2 c3 c4
            obtain ⟨G, hG⟩ : ∃ G : Option Value → World → Prop, ∀ x W, G x W = StepG w1.heap.size b W1 bs rest (fun v W => ∃ A n c, v = .slice A n c ∧ Rds W 1 A n c (nums .i64 ql)) x W := ⟨_, fun _ _ => rfl⟩
            obtain ⟨S_, hS_⟩ : ∃ S_ : World → World → Prop, S_ = (fun _ _ => True) := ⟨_, rfl⟩
            have hR_ : ∀ W, S_ W W := by intro W; rw [hS_]; exact trivial
            obtain ⟨T, hT⟩ : ∃ T : Nat → FactS S_, ∀ t_, T t_ = ([FactS.eq (.pointer (some ⟨b, 0, none⟩)), FactS.any, FactS.eq (.pointer (some ⟨wr.heap.size, 4, none⟩)), FactS.eq (.slice qA qm qc), FactS.eq (.bool true), FactS.eq (.bool true)] : List (FactS S_)).getD t_ FactS.any := ⟨_, fun _ => rfl⟩
            have hP_ : ∀ i_ v_ (y_ : Nat → Option Value) W_, ([1].contains i_) = false → G (y_ 1) W_ → G (updY y_ i_ v_ 1) W_ := by
              intro i_ v_ y_ W_ hi_ h_
              simp only [List.contains_cons, List.contains_nil, Bool.or_false, beq_eq_false_iff_ne, ne_eq] at hi_
              rw [updY_ne y_ i_ v_ hi_]
              exact h_
            refine region_tabJ [(0, 82), (1, 83), (2, 84), (3, 85), (4, 86), (5, 9)] S_ T (fun y_ W_ => G (y_ 1) W_) (by kernel_rfl) (by kernel_rfl) (by kernel_rfl) (by kernel_rfl) (by kernel_rfl) ?_ ?_ ?_
            · skip
              show G none _
              rw [hG]
              exact .inl ⟨rfl, Chg.of_below (below_dr (Below.refl _ _) _), hss.below (below_dr (Below.refl _ _) _)⟩
            · skip
              refine stepsAll_cons (k := 0) ?_ ?_
              · intro fa fx fW fy hF hN hJ hE K fK
                have hJ : G (fy 1) fW := hJ
                have ev6 : fa.tmps[6]?.getD undef = .pointer (some ⟨b, 0, none⟩) := hF.eo 6 (by kernel_rfl)
                refine wpOp_val rfl (wanted_none rfl) ?_ (fK (.pointer (some ⟨b, 0, none⟩)) fW (hR_ fW) (by rw [hT]; exact rfl) (hP_ 0 _ fy fW rfl hJ))
                clear fK hE hF hJ hN
                go_simp
              refine stepsAll_cons (k := 1) ?_ ?_
              · intro fa fx fW fy hF hN hJ hE K fK
                have hJ : G (fy 1) fW := hJ
                have q0 : fx 0 = .pointer (some ⟨b, 0, none⟩) := by have q := (hE ⟨0, .data⟩ (by simp) rfl).2; rw [hT] at q; exact q
                have ev82 : fa.tmps[82]?.getD undef = .pointer (some ⟨b, 0, none⟩) := (hF.ev 0 82 (by kernel_rfl)).trans q0
                refine wpOp_call rfl (wanted_none rfl) (by go_simp; exact ⟨rfl, rfl⟩) ?_
                rw [hG, hN] at hJ
                obtain ⟨hc0, hs0⟩ := hJ.fst
                refine (HG.out fW hs0 (by have := hc0.size; omega)).mono ?_
                rintro e' w' ⟨A1, n1, c1, rfl, hrd, hc, hs⟩
                have b1 : S_ fW w' := by rw [hS_]; trivial
                have j1 : G (some (.slice A1 n1 c1)) w' := by rw [hG]; exact .inr ⟨_, rfl, ⟨A1, n1, c1, rfl, hrd⟩, hc0.trans hc, hs⟩
                exact ⟨_, rfl, fK (.slice A1 n1 c1) (w') (b1) (by rw [hT]; exact trivial) (j1)⟩
              refine stepsAll_cons (k := 2) ?_ ?_
              · intro fa fx fW fy hF hN hJ hE K fK
                have hJ : G (fy 1) fW := hJ
                have ev8 : fa.tmps[8]?.getD undef = .pointer (some ⟨wr.heap.size, 0, none⟩) := hF.eo 8 (by kernel_rfl)
                refine wpOp_val rfl (wanted_none rfl) ?_ (fK (.pointer (some ⟨wr.heap.size, 4, none⟩)) fW (hR_ fW) (by rw [hT]; exact rfl) (hP_ 2 _ fy fW rfl hJ))
                clear fK hE hF hJ hN
                go_simp
              refine stepsAll_cons (k := 3) ?_ ?_
              · intro fa fx fW fy hF hN hJ hE K fK
                have hJ : G (fy 1) fW := hJ
                have q2 : fx 2 = .pointer (some ⟨wr.heap.size, 4, none⟩) := by have q := (hE ⟨2, .data⟩ (by simp) rfl).2; rw [hT] at q; exact q
                have ev84 : fa.tmps[84]?.getD undef = .pointer (some ⟨wr.heap.size, 4, none⟩) := (hF.ev 2 84 (by kernel_rfl)).trans q2
                have hJ2 := hJ
                rw [hG] at hJ2
                have y0 := hJ2.chg.cell xf hnb
                clear hJ2
                refine wpOp_val rfl (wanted_none rfl) ?_ (fK (.slice qA qm qc) fW (hR_ fW) (by rw [hT]; exact rfl) (hP_ 3 _ fy fW rfl hJ))
                clear fK hE hF hJ hN
                go_simp
              refine stepsAll_cons (k := 4) ?_ ?_
              · intro fa fx fW fy hF hN hJ hE K fK
                have hJ : G (fy 1) fW := hJ
                have q1 : (FactS.any : FactS S_).p (fx 1) fW := by have q := (hE ⟨1, .data⟩ (by simp) rfl).2; rw [hT] at q; exact q
                have y1 : fy 1 = some (fx 1) := (hE ⟨1, .data⟩ (by simp) rfl).1
                have q3 : fx 3 = .slice qA qm qc := by have q := (hE ⟨3, .data⟩ (by simp) rfl).2; rw [hT] at q; exact q
                have ev83 : fa.tmps[83]?.getD undef = fx 1 := hF.ev 1 83 (by kernel_rfl)
                have ev85 : fa.tmps[85]?.getD undef = .slice qA qm qc := (hF.ev 3 85 (by kernel_rfl)).trans q3
                refine wpOp_call rfl (wanted_none rfl) (by go_simp; exact ⟨rfl, rfl⟩) ?_
                rw [hG, y1] at hJ
                obtain ⟨⟨A1, n1, c1, ev, hrd⟩, hc1, hs5⟩ := hJ.snd
                rw [ev]
                have hB5 : Below w.heap.size w fW := hc1.toBelow hbw1 hbw1.size (fun k hk => by omega)
                refine (ints03 A1 n1 c1 ql qA qm qc ql fW hrd (HQK.out.row.below hB5)).mono ?_
                rintro e' w' ⟨rfl, hbb⟩
                rw [show decide (ql = ql) = true by simp]
                have b1 : S_ fW w' := by rw [hS_]; trivial
                have j1 : G (fy 1) w' := by rw [hG, y1]; exact .inr ⟨_, rfl, ⟨A1, n1, c1, ev, hrd.below hbb⟩, hc1.trans (.of_below hbb), hs5.below hbb⟩
                exact ⟨_, rfl, fK (.bool true) (w') (b1) (by rw [hT]; exact rfl) (hP_ 4 _ fy w' rfl j1)⟩
              refine stepsAll_cons (k := 5) ?_ ?_
              · intro fa fx fW fy hF hN hJ hE K fK
                have hJ : G (fy 1) fW := hJ
                have q4 : fx 4 = .bool true := by have q := (hE ⟨4, .data⟩ (by simp) rfl).2; rw [hT] at q; exact q
                have ev86 : fa.tmps[86]?.getD undef = .bool true := (hF.ev 4 86 (by kernel_rfl)).trans q4
                refine wpOp_val rfl (wanted_none rfl) ?_ (fK (.bool true) fW (hR_ fW) (by rw [hT]; exact rfl) (hP_ 5 _ fy fW rfl hJ))
                clear fK hE hF hJ hN
                go_simp
              exact stepsAll_nil
            intro fa fx fW fy hF hJ0 hx
            have y1 : fy 1 = some (fx 1) := (hx 1 (by decide)).1
            have hJ : G (fy 1) fW := hJ0
            clear hJ0
            rw [y1] at hJ
            have q5 : fx 5 = .bool true := by have q := (hx 5 (by decide)).2; rw [hT] at q; exact q
            have ev9 : fa.tmps[9]?.getD undef = .bool true := (hF.ev 5 9 (by kernel_rfl)).trans q5
            rw [hF.eq]
            clear hF hx hT T hP_ hR_ y1
            simp only [putAll, Act.put, List.setIfInBounds_toArray, List.set_cons_zero, List.set_cons_succ, q5]
            rw [hG] at hJ
            obtain ⟨_, hc9, hs9⟩ := hJ.snd
            have hB9 : Below w.heap.size w fW := hc9.toBelow hbw1 hbw1.size (fun k hk => by omega)
            have HER := Lib.hid (srcErr b 0 rest fW hs9)
            go_wp2_with (go_at_call 23; (with_reducible refine HER.out.mono ?_); rintro e w3 ⟨rfl, rfl⟩)
            go_roundw
            case rel => exact ⟨k + 1, rest, by omega, by go_num, hs9, (hch.trans (.of_below hal)).trans hc9, hB9, HRS.out, HRU.out, HRL.out⟩
            case measure => simp only [intOf]; omega
          have q0 : (qk == 0) = false := by simp; omega
          have q1 : (qk == 1) = false := by simp; omega
          have q2 : (qk == 2) = false := by simp; omega
          have q3 : (qk == 3) = false := by simp; omega
          have q4 : (qk == 4) = false := by simp; omega
          have HE : Hid (bs = ((qn % 256 : Nat) : Int) :: rest) := by show _ = _; rw [HBB.out]; simp [encV, bytesOf_length, flagN, h0, h1, h2, h3, h4]
          have HG : Hid (∀ W, Src w1.heap.size W b bs 0 → w1.heap.size ≤ W.heap.size → Calls Try.prog 28 #[.pointer (some ⟨b, 0, none⟩)] W fun e w' => e = .returned (.int .u8 ((qn % 256 : Nat) : Int)) ∧ Chg (fun k => k = b) W w' ∧ Src w1.heap.size w' b rest 0) := by
            intro W h hB
            have h9 := HU.out
            have h8 := HBL.out
            rw [HE.out] at h h9 h8
            have h1 := srcByte' (B := w1.heap.size) b 0 _ W h hB h9
            rw [gotE_ok (f := octM) (show octM (((qn % 256 : Nat) : Int) :: rest) = .ok (_, rest) from rfl)] at h1
            exact h1
          clear h0 h1 h2 h3 h4 HE
          go_wp2
          obtain ⟨W1, hW1⟩ : ∃ W1, W1 = wr.alloc (.cells #[.int .i64 qk, .int .u64 qn, .int .i64 qi, .string qs, .slice qA qm qc] (26 : Nat)) := ⟨_, rfl⟩
          have hal : Below wr.heap.size wr W1 := by rw [hW1]; exact below_al (Below.refl _ _) _
          have xf : W1.cell? ⟨wr.heap.size, 1, none⟩ = some (.int .u64 qn) := by rw [hW1]; go_simp
          rw [← hW1]
          have hbw1 : Below w.heap.size w W1 := below_then hBr2 hBr2.size hal
          have hsz2 := hal.size
          have hnb : wr.heap.size ≠ b := by omega
          have hss := hsr.below hal
          clear hW1 c0 c1 c2 c3 c4
          obtain ⟨G, hG⟩ : ∃ G : Option Value → World → Prop, ∀ x W, G x W = StepG w1.heap.size b W1 bs rest (fun v W => True) x W := ⟨_, fun _ _ => rfl⟩
          obtain ⟨S_, hS_⟩ : ∃ S_ : World → World → Prop, S_ = (fun _ _ => True) := ⟨_, rfl⟩
          have hR_ : ∀ W, S_ W W := by intro W; rw [hS_]; exact trivial
          obtain ⟨T, hT⟩ : ∃ T : Nat → FactS S_, ∀ t_, T t_ = ([FactS.eq (.pointer (some ⟨b, 0, none⟩)), FactS.eq (.int .u8 ((qn % 256 : Nat) : Int)), FactS.eq (.pointer (some ⟨wr.heap.size, 1, none⟩)), FactS.eq (.int .u64 qn), FactS.eq (.int .u8 ((qn % 256 : Nat) : Int)), FactS.eq (.bool true), FactS.eq (.bool true)] : List (FactS S_)).getD t_ FactS.any := ⟨_, fun _ => rfl⟩
          have hP_ : ∀ i_ v_ (y_ : Nat → Option Value) W_, ([1].contains i_) = false → G (y_ 1) W_ → G (updY y_ i_ v_ 1) W_ := by
            intro i_ v_ y_ W_ hi_ h_
            simp only [List.contains_cons, List.contains_nil, Bool.or_false, beq_eq_false_iff_ne, ne_eq] at hi_
            rw [updY_ne y_ i_ v_ hi_]
            exact h_
          refine region_tabJ [(0, 45), (1, 46), (2, 47), (3, 48), (4, 49), (5, 50), (6, 9)] S_ T (fun y_ W_ => G (y_ 1) W_) (by kernel_rfl) (by kernel_rfl) (by kernel_rfl) (by kernel_rfl) (by kernel_rfl) ?_ ?_ ?_
          · skip
            show G none _
            rw [hG]
            exact .inl ⟨rfl, Chg.of_below (below_dr (Below.refl _ _) _), hss.below (below_dr (Below.refl _ _) _)⟩
          · skip
            refine stepsAll_cons (k := 0) ?_ ?_
            · intro fa fx fW fy hF hN hJ hE K fK
              have hJ : G (fy 1) fW := hJ
              have ev6 : fa.tmps[6]?.getD undef = .pointer (some ⟨b, 0, none⟩) := hF.eo 6 (by kernel_rfl)
              refine wpOp_val rfl (wanted_none rfl) ?_ (fK (.pointer (some ⟨b, 0, none⟩)) fW (hR_ fW) (by rw [hT]; exact rfl) (hP_ 0 _ fy fW rfl hJ))
              clear fK hE hF hJ hN
              go_simp
            refine stepsAll_cons (k := 1) ?_ ?_
            · intro fa fx fW fy hF hN hJ hE K fK
              have hJ : G (fy 1) fW := hJ
              have q0 : fx 0 = .pointer (some ⟨b, 0, none⟩) := by have q := (hE ⟨0, .data⟩ (by simp) rfl).2; rw [hT] at q; exact q
              have ev45 : fa.tmps[45]?.getD undef = .pointer (some ⟨b, 0, none⟩) := (hF.ev 0 45 (by kernel_rfl)).trans q0
              refine wpOp_call rfl (wanted_none rfl) (by go_simp; exact ⟨rfl, rfl⟩) ?_
              rw [hG, hN] at hJ
              obtain ⟨hc0, hs0⟩ := hJ.fst
              refine (HG.out fW hs0 (by have := hc0.size; omega)).mono ?_
              rintro e' w' ⟨rfl, hc, hs⟩
              have b1 : S_ fW w' := by rw [hS_]; trivial
              have j1 : G (some (.int .u8 ((qn % 256 : Nat) : Int))) w' := by rw [hG]; exact .inr ⟨_, rfl, trivial, hc0.trans hc, hs⟩
              exact ⟨_, rfl, fK (.int .u8 ((qn % 256 : Nat) : Int)) (w') (b1) (by rw [hT]; exact rfl) (j1)⟩
            refine stepsAll_cons (k := 2) ?_ ?_
            · intro fa fx fW fy hF hN hJ hE K fK
              have hJ : G (fy 1) fW := hJ
              have ev8 : fa.tmps[8]?.getD undef = .pointer (some ⟨wr.heap.size, 0, none⟩) := hF.eo 8 (by kernel_rfl)
              refine wpOp_val rfl (wanted_none rfl) ?_ (fK (.pointer (some ⟨wr.heap.size, 1, none⟩)) fW (hR_ fW) (by rw [hT]; exact rfl) (hP_ 2 _ fy fW rfl hJ))
              clear fK hE hF hJ hN
              go_simp
            refine stepsAll_cons (k := 3) ?_ ?_
            · intro fa fx fW fy hF hN hJ hE K fK
              have hJ : G (fy 1) fW := hJ
              have q2 : fx 2 = .pointer (some ⟨wr.heap.size, 1, none⟩) := by have q := (hE ⟨2, .data⟩ (by simp) rfl).2; rw [hT] at q; exact q
              have ev47 : fa.tmps[47]?.getD undef = .pointer (some ⟨wr.heap.size, 1, none⟩) := (hF.ev 2 47 (by kernel_rfl)).trans q2
              have hJ2 := hJ
              rw [hG] at hJ2
              have y0 := hJ2.chg.cell xf hnb
              clear hJ2
              refine wpOp_val rfl (wanted_none rfl) ?_ (fK (.int .u64 qn) fW (hR_ fW) (by rw [hT]; exact rfl) (hP_ 3 _ fy fW rfl hJ))
              clear fK hE hF hJ hN
              go_simp
            refine stepsAll_cons (k := 4) ?_ ?_
            · intro fa fx fW fy hF hN hJ hE K fK
              have hJ : G (fy 1) fW := hJ
              have q3 : fx 3 = .int .u64 qn := by have q := (hE ⟨3, .data⟩ (by simp) rfl).2; rw [hT] at q; exact q
              have ev48 : fa.tmps[48]?.getD undef = .int .u64 qn := (hF.ev 3 48 (by kernel_rfl)).trans q3
              refine wpOp_val rfl (wanted_none rfl) ?_ (fK (.int .u8 ((qn % 256 : Nat) : Int)) fW (hR_ fW) (by rw [hT]; exact rfl) (hP_ 4 _ fy fW rfl hJ))
              clear fK hE hF hJ hN
              go_simp
              rw [IntKind.wrap_u8]
            refine stepsAll_cons (k := 5) ?_ ?_
            · intro fa fx fW fy hF hN hJ hE K fK
              have hJ : G (fy 1) fW := hJ
              have q1 : fx 1 = .int .u8 ((qn % 256 : Nat) : Int) := by have q := (hE ⟨1, .data⟩ (by simp) rfl).2; rw [hT] at q; exact q
              have y1 : fy 1 = some (fx 1) := (hE ⟨1, .data⟩ (by simp) rfl).1
              have q4 : fx 4 = .int .u8 ((qn % 256 : Nat) : Int) := by have q := (hE ⟨4, .data⟩ (by simp) rfl).2; rw [hT] at q; exact q
              have ev46 : fa.tmps[46]?.getD undef = .int .u8 ((qn % 256 : Nat) : Int) := (hF.ev 1 46 (by kernel_rfl)).trans q1
              have ev49 : fa.tmps[49]?.getD undef = .int .u8 ((qn % 256 : Nat) : Int) := (hF.ev 4 49 (by kernel_rfl)).trans q4
              refine wpOp_val rfl (wanted_none rfl) ?_ (fK (.bool true) fW (hR_ fW) (by rw [hT]; exact rfl) (hP_ 5 _ fy fW rfl hJ))
              clear fK hE hF hJ hN
              go_simp
            refine stepsAll_cons (k := 6) ?_ ?_
            · intro fa fx fW fy hF hN hJ hE K fK
              have hJ : G (fy 1) fW := hJ
              have q5 : fx 5 = .bool true := by have q := (hE ⟨5, .data⟩ (by simp) rfl).2; rw [hT] at q; exact q
              have ev50 : fa.tmps[50]?.getD undef = .bool true := (hF.ev 5 50 (by kernel_rfl)).trans q5
              refine wpOp_val rfl (wanted_none rfl) ?_ (fK (.bool true) fW (hR_ fW) (by rw [hT]; exact rfl) (hP_ 6 _ fy fW rfl hJ))
              clear fK hE hF hJ hN
              go_simp
            exact stepsAll_nil
          intro fa fx fW fy hF hJ0 hx
          have y1 : fy 1 = some (fx 1) := (hx 1 (by decide)).1
          have hJ : G (fy 1) fW := hJ0
          clear hJ0
          rw [y1] at hJ
          have q6 : fx 6 = .bool true := by have q := (hx 6 (by decide)).2; rw [hT] at q; exact q
          have ev9 : fa.tmps[9]?.getD undef = .bool true := (hF.ev 6 9 (by kernel_rfl)).trans q6
          rw [hF.eq]
          clear hF hx hT T hP_ hR_ y1
          simp only [putAll, Act.put, List.setIfInBounds_toArray, List.set_cons_zero, List.set_cons_succ, q6]
          rw [hG] at hJ
          obtain ⟨_, hc9, hs9⟩ := hJ.snd
          have hB9 : Below w.heap.size w fW := hc9.toBelow hbw1 hbw1.size (fun k hk => by omega)
          have HER := Lib.hid (srcErr b 0 rest fW hs9)
          go_wp2_with (go_at_call 23; (with_reducible refine HER.out.mono ?_); rintro e w3 ⟨rfl, rfl⟩)
          go_roundw
          case rel => exact ⟨k + 1, rest, by omega, by go_num, hs9, (hch.trans (.of_below hal)).trans hc9, hB9, HRS.out, HRU.out, HRL.out⟩
          case measure => simp only [intOf]; omega
        · have hkm : k = m := by omega
          have HE0 : Hid (bs = []) := by show _ = _; rw [HB.out, hkm, ← HN.out, List.drop_length]; rfl
          have HE1 := srcEnd b 0 bs wr hsr
          have HE2 := srcLeft b 0 bs wr hsr
          rw [HE0.out] at HE1 HE2
          have HE1 := Lib.hid HE1
          have HE2 := Lib.hid HE2
          clear hkm
          go_wp2_with (first
            | (go_at_call 29; (with_reducible refine HE1.out.mono ?_); rintro e w3 ⟨rfl, rfl⟩)
            | (go_at_call 22; (with_reducible refine HE2.out.mono ?_); rintro e w3 ⟨rfl, rfl⟩)
            | (go_at_call 9; (with_reducible refine (HL.out _).mono ?_); rintro e w4 ⟨rfl, hb4⟩))
          go_ret
          exact ⟨rfl, below_then hBr2 hBr2.size hb4⟩
end Go.Proofs.Ytdhckbpfkdekmaa
