/- The reference's source: Ints, Read. -/
import Derived.Test.YtdhckbpfkdekmaaRefGets2
namespace Go.Proofs.Ytdhckbpfkdekmaa
open Go.RowKit
variable {L B : Nat}
/-- What Ints of the reference leaves. -/
def TellsRL (L B : Nat) (w : World) (b : Nat) (r : List Int × List Int × Int) (e : Ending) (w' : World) : Prop :=
  ∃ A n c, e = .returned (.slice A n c) ∧ Rds w' 1 A n c (nums .i64 r.1) ∧ Chg (fun k => k = b) w w' ∧ RSrc L B w' b r.2.1 r.2.2
set_option maxRecDepth 100000 in
set_option maxHeartbeats 8000000 in
/-- The loop: N ints more, M the bound for their number. -/
theorem refInts (b : Nat) (ct a d er : Int) (bs : List Int) (w : World) (h : RSrc L B w b bs er) (hB : B ≤ w.heap.size) (hb : U8s bs) (hlen : bs.length ≤ 1000000) (hI : I64 ct) :
    Calls Try.prog 59 #[.pointer (some ⟨b, 0, none⟩), .int .i64 ct, .int .i64 a, .int .i64 d] w (TellsRL L B w b (gotE [] (fun bs => intsM bs ct a d) bs er)) := by
  have HW := Lib.hid (rnumW b er bs w h hb hlen)
  have hbw : b < w.heap.size := h.err.lt
  by_cases h0 : er = 0
  · subst h0
    cases hn : numS bs with
    | error x =>
      rw [gotE_error (f := fun bs => intsM bs ct a d) (by show intsM bs ct a d = _; unfold intsM countM; rw [hn]; rfl)]
      rw [gotE_error hn] at HW
      have hx0 : (x != 0) = true := by simpa using numS_err hb hn
      clear hn
      go_enter Try.func59, Try.ntmps59
      go_wp2_with (go_at_call 69; refine HW.out.mono ?_; rintro e w2 ⟨rfl, hc2, hs2⟩; have he := hs2.err.cell)
      go_ret
      exact ⟨_, _, _, rfl, Rds.none_ _ _, hc2, hs2⟩
    | ok q =>
      obtain ⟨v, rest⟩ := q
      rw [gotE_ok hn] at HW
      have HU : Hid (U8s rest ∧ rest.length ≤ bs.length) := ⟨(numS_rest hb hn).2.1, Nat.le_of_lt (numS_rest hb hn).2.2⟩
      have hcm : countM bs ct = if (v : Int) ≤ max ct 0 then .ok (v, rest) else .error 8 := by unfold countM; rw [hn]; rfl
      obtain ⟨M, hM⟩ : ∃ M : Nat, max ct 0 = (M : Int) := ⟨(max ct 0).toNat, by omega⟩
      have hMlt : M < 9223372036854775808 := by unfold I64 at hI; omega
      have HWR : Hid (IntKind.u64.wrap (M : Int) = M) := by show _ = _; rw [IntKind.wrap_u64]; omega
      rw [hM] at hcm
      have hneg : ct < 0 → M = 0 := by omega
      have hpos : ¬ ct < 0 → ct = M := by omega
      clear hn hI hM
      by_cases hvM : v ≤ M
      · rw [if_pos (by omega)] at hcm
        have HX : Hid (intsM bs ct a d = intsF a d v [] rest) := by show _ = _; unfold intsM; rw [hcm]; rfl
        clear hcm
        by_cases ha : ct < 0
        · have hM0 := hneg ha
          subst hM0
          have hv0 : decide ((0 : Int) < v) = false := by simp; omega
          have hv1 : decide (0 < v) = false := by simp; omega
          have hv2 : ¬ (0 : Int) < v := by omega
          have hv3 : ¬ 0 < v := by omega
          clear hneg hpos hMlt
          go_enter Try.func59, Try.ntmps59
          go_wp2_with (go_at_call 69; refine HW.out.mono ?_; rintro e w2 ⟨rfl, hc2, hs2⟩; have he := hs2.err.cell)
          go_loopw [9, 10] (fun i vv wr => ∃ (k : Nat) (acc bs' : List Int) (er' : Int), k ≤ v ∧ i = .int .u64 k ∧ wr.ownsRow w.heap.size 3 1 vv acc.length (nums .i64 acc) ∧ Chg (fun k => k = b) w wr ∧ RSrc L B wr b bs' er' ∧ Hid (er' = 0 → intsF a d k acc bs' = intsF a d v [] rest) ∧ Hid (er' ≠ 0 → intsF a d v [] rest = .error er' ∧ bs' = []) ∧ Hid (U8s bs') ∧ Hid ((er' = 0 → acc.length + bs'.length ≤ bs.length) ∧ acc.length ≤ bs.length + 1)) (fun i _ _ => (intOf i).toNat)
          case atStart => exact ⟨v, [], rest, 0, Nat.le_refl _, rfl, ⟨rfl, .inl ⟨rfl, rfl⟩⟩, hc2, hs2, fun _ => rfl, fun h => absurd rfl h, HU.out.1, by show _ ∧ _; have := HU.out.2; refine ⟨fun _ => ?_, ?_⟩ <;> simp <;> omega⟩
          case round =>
            obtain ⟨k, acc, bs', er', hk, rfl, hown, hcr, hsr, HE, HF, HB, HL⟩ := hrel
            obtain rfl : k = 0 := by omega
            have he' := hsr.err.cell
            by_cases he0 : er' = 0
            · subst he0
              have HX2 : Hid (intsM bs ct a d = .ok (acc, bs')) := by show _ = _; rw [HX.out, ← HE.out rfl]; rfl
              obtain ⟨A1, c1, rfl, hrv⟩ := own_rds hown
              clear hown
              go_wp2
              go_ret
              rw [gotE_ok (f := fun bs => intsM bs ct a d) HX2.out]
              exact ⟨_, _, _, rfl, hrv, hcr, hsr⟩
            · obtain ⟨h1, rfl⟩ := HF.out he0
              have hx0 : (er' == 0) = false := by simpa using he0
              have hx1 : (er' != 0) = true := by simpa using he0
              have HX3 : Hid (intsM bs ct a d = .error er') := by show _ = _; rw [HX.out]; exact h1
              clear h1 he0 HF HE
              go_wp2
              all_goals
                go_ret
                rw [gotE_error (f := fun bs => intsM bs ct a d) HX3.out]
                exact ⟨_, _, _, rfl, Rds.none_ _ _, hcr, hsr⟩
        · obtain rfl := hpos ha
          have hv0 : decide ((M : Int) < v) = false := by simp; omega
          have hv1 : decide (M < v) = false := by simp; omega
          have hv2 : ¬ (M : Int) < v := by omega
          have hv3 : ¬ M < v := by omega
          have hwr := HWR.out
          have HV64 : Hid (v < 9223372036854775808) := by show _ < _; omega
          clear hneg hpos hvM hMlt
          go_enter Try.func59, Try.ntmps59
          go_wp2_with (go_at_call 69; refine HW.out.mono ?_; rintro e w2 ⟨rfl, hc2, hs2⟩; have he := hs2.err.cell)
          go_loopw [9, 10] (fun i vv wr => ∃ (k : Nat) (acc bs' : List Int) (er' : Int), k ≤ v ∧ i = .int .u64 k ∧ wr.ownsRow w.heap.size 3 1 vv acc.length (nums .i64 acc) ∧ Chg (fun k => k = b) w wr ∧ RSrc L B wr b bs' er' ∧ Hid (er' = 0 → intsF a d k acc bs' = intsF a d v [] rest) ∧ Hid (er' ≠ 0 → intsF a d v [] rest = .error er' ∧ bs' = []) ∧ Hid (U8s bs') ∧ Hid ((er' = 0 → acc.length + bs'.length ≤ bs.length) ∧ acc.length ≤ bs.length + 1)) (fun i _ _ => (intOf i).toNat)
          case atStart => exact ⟨v, [], rest, 0, Nat.le_refl _, rfl, ⟨rfl, .inl ⟨rfl, rfl⟩⟩, hc2, hs2, fun _ => rfl, fun h => absurd rfl h, HU.out.1, by show _ ∧ _; have := HU.out.2; refine ⟨fun _ => ?_, ?_⟩ <;> simp <;> omega⟩
          case round =>
            obtain ⟨k, acc, bs', er', hk, rfl, hown, hcr, hsr, HE, HF, HB, HL⟩ := hrel
            have he' := hsr.err.cell
            by_cases he0 : er' = 0
            · subst he0
              by_cases hk0 : k = 0
              · subst hk0
                have HX2 : Hid (intsM bs (M : Int) a d = .ok (acc, bs')) := by show _ = _; rw [HX.out, ← HE.out rfl]; rfl
                obtain ⟨A1, c1, rfl, hrv⟩ := own_rds hown
                clear hown
                go_wp2
                go_ret
                rw [gotE_ok (f := fun bs => intsM bs (M : Int) a d) HX2.out]
                exact ⟨_, _, _, rfl, hrv, hcr, hsr⟩
              · obtain ⟨j, rfl⟩ : ∃ j, k = j + 1 := ⟨k - 1, by omega⟩
                have hkp : (0 : Int) < ((j + 1 : Nat) : Int) := by omega
                have HL1 : Hid (acc.length + bs'.length ≤ bs.length) := HL.out.1 rfl
                have hlen' : bs'.length ≤ 1000000 := by have := HL1.out; omega
                have hacc : acc.length ≤ 1000001 := by have := HL.out.2; omega
                have HI := Lib.hid (refInt (L := L) (B := B) b a d 0 bs' wr hsr HB.out hlen')
                have HE2 : Hid (intsF a d v [] rest = thenE (withinM bs' a d) fun v r => intsF a d j (acc ++ [v]) r) := by show _ = _; rw [← HE.out rfl]; rfl
                have HJ : Hid (IntKind.u64.wrap (j : Int) = j) := by show _ = _; have := HV64.out; rw [IntKind.wrap_u64]; omega
                cases hq : withinM bs' a d with
                | error e0 =>
                  have HX2 : Hid (intsF a d v [] rest = .error e0) := by show _ = _; rw [HE2.out, hq]; rfl
                  have HE0 : Hid (e0 ≠ 0) := by have := well_within HB.out a d; rw [hq] at this; exact this
                  rw [gotE_error (f := fun bs => withinM bs a d) hq] at HI
                  clear hq hk0 HF HE
                  go_wp2_with (first
                    | (go_at_call 56; refine HI.out.mono ?_; rintro e w3 ⟨rfl, hc3, hs3⟩; have hown3 := hc3.own hown (fun g hg e => by have := own_base hown g hg; omega))
                    | (at_builtin; refine api w.heap.size (by rfl) _ _ (by rfl) _ _ _ (by rfl) (by rfl) hown3 (Nat.le_trans hcr.size hc3.size) (by omega) ?_; intro v1 w4 hown4 hb4))
                  go_roundw
                  case rel =>
                    refine ⟨j, acc ++ [0], [], e0, by omega, by simp [HJ.out], hown4, (hcr.trans hc3).thenB hb4, hs3.keep (.of_belowB hb4) (by omega) (fun k _ hk => by omega), fun h => absurd h HE0.out, fun _ => ⟨HX2.out, rfl⟩, (fun x hx => by cases hx), ?_⟩
                    refine ⟨fun h => absurd h HE0.out, ?_⟩
                    have h1 := HL1.out
                    rw [List.length_append, List.length_singleton]
                    omega
                  case measure => simp [HJ.out, intOf]
                | ok q =>
                  obtain ⟨x, r⟩ := q
                  have HX2 : Hid (intsF a d j (acc ++ [x]) r = intsF a d v [] rest) := by show _ = _; rw [HE2.out, hq]; rfl
                  have HR : Hid (U8s r ∧ r.length < bs'.length) := by
                    unfold withinM at hq
                    cases hz : numS bs' with
                    | error e0 => rw [hz] at hq; cases hq
                    | ok qq =>
                      obtain ⟨v, r2⟩ := qq
                      rw [hz] at hq
                      simp only [thenE] at hq
                      split at hq
                      · cases hq; exact (numS_rest HB.out hz).2
                      · cases hq
                  rw [gotE_ok (f := fun bs => withinM bs a d) hq] at HI
                  clear hq hk0 HF HE
                  go_wp2_with (first
                    | (go_at_call 56; refine HI.out.mono ?_; rintro e w3 ⟨rfl, hc3, hs3⟩; have hown3 := hc3.own hown (fun g hg e => by have := own_base hown g hg; omega))
                    | (at_builtin; refine api w.heap.size (by rfl) _ _ (by rfl) _ _ _ (by rfl) (by rfl) hown3 (Nat.le_trans hcr.size hc3.size) (by omega) ?_; intro v1 w4 hown4 hb4))
                  go_roundw
                  case rel =>
                    refine ⟨j, acc ++ [x], r, 0, by omega, by simp [HJ.out], hown4, (hcr.trans hc3).thenB hb4, hs3.keep (.of_belowB hb4) (by omega) (fun k _ hk => by omega), fun _ => HX2.out, fun h => absurd rfl h, HR.out.1, ?_⟩
                    have h1 := HL1.out
                    have h2 := HR.out.2
                    rw [List.length_append, List.length_singleton]
                    exact ⟨fun _ => by omega, by omega⟩
                  case measure => simp [HJ.out, intOf]
            · obtain ⟨h1, rfl⟩ := HF.out he0
              have hx0 : (er' == 0) = false := by simpa using he0
              have hx1 : (er' != 0) = true := by simpa using he0
              have HX3 : Hid (intsM bs (M : Int) a d = .error er') := by show _ = _; rw [HX.out]; exact h1
              clear h1 he0 HF HE
              go_wp2
              all_goals
                go_ret
                rw [gotE_error (f := fun bs => intsM bs (M : Int) a d) HX3.out]
                exact ⟨_, _, _, rfl, Rds.none_ _ _, hcr, hsr⟩
      · rw [if_neg (by omega)] at hcm
        rw [gotE_error (f := fun bs => intsM bs ct a d) (by show intsM bs ct a d = _; unfold intsM; rw [hcm]; rfl)]
        clear hcm
        by_cases ha : ct < 0
        · have hM0 := hneg ha
          subst hM0
          have hv0 : decide ((0 : Int) < v) = true := by simp; omega
          have hv1 : decide (0 < v) = true := by simp; omega
          have hv2 : (0 : Int) < v := by omega
          have hv3 : 0 < v := by omega
          clear hneg hpos hvM hMlt
          go_enter Try.func59, Try.ntmps59
          go_wp2_with (first
            | (go_at_call 69; refine HW.out.mono ?_; rintro e w2 ⟨rfl, hc2, hs2⟩; have he := hs2.err.cell; have HF := Lib.hid (rfail b 8 _ w2 hs2))
            | (go_at_call 70; refine HF.out.mono ?_; rintro e w3 ⟨rfl, hc3, hs3⟩))
          go_ret
          exact ⟨_, _, _, rfl, Rds.none_ _ _, hc2.trans hc3, hs3⟩
        · obtain rfl := hpos ha
          have hv0 : decide ((M : Int) < v) = true := by simp; omega
          have hv1 : decide (M < v) = true := by simp; omega
          have hv2 : (M : Int) < v := by omega
          have hv3 : M < v := by omega
          have hwr := HWR.out
          clear hneg hpos hvM hMlt
          go_enter Try.func59, Try.ntmps59
          go_wp2_with (first
            | (go_at_call 69; refine HW.out.mono ?_; rintro e w2 ⟨rfl, hc2, hs2⟩; have he := hs2.err.cell; have HF := Lib.hid (rfail b 8 _ w2 hs2))
            | (go_at_call 70; refine HF.out.mono ?_; rintro e w3 ⟨rfl, hc3, hs3⟩))
          go_ret
          exact ⟨_, _, _, rfl, Rds.none_ _ _, hc2.trans hc3, hs3⟩
  · rw [gotE_err h0]
    rw [gotE_err h0] at HW
    have hx0 : (er != 0) = true := by simpa using h0
    clear h0
    go_enter Try.func59, Try.ntmps59
    go_wp2_with (go_at_call 69; refine HW.out.mono ?_; rintro e w2 ⟨rfl, hc2, hs2⟩; have he := hs2.err.cell)
    go_ret
    exact ⟨_, _, _, rfl, Rds.none_ _ _, hc2, hs2⟩
end Go.Proofs.Ytdhckbpfkdekmaa
