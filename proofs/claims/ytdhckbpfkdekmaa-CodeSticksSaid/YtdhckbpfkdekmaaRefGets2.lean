/- The reference's source: Byte, Flag, Text, End. -/
import Derived.Test.YtdhckbpfkdekmaaRefGets
import Derived.Test.YtdhckbpfkdekmaaRegionS
namespace Go.Proofs.Ytdhckbpfkdekmaa
open Go.RowKit
variable {L B : Nat}
set_option maxRecDepth 100000 in
set_option maxHeartbeats 4000000 in
theorem refByte (b : Nat) (er : Int) (bs : List Int) (w : World) (h : RSrc L B w b bs er) :
    Calls Try.prog 60 #[.pointer (some ⟨b, 0, none⟩)] w (TellsR (fun v => .int .u8 v) L B w b (gotE 0 octM bs er)) := by
  have he := h.err.cell
  by_cases h0 : er = 0
  · subst h0
    cases bs with
    | nil =>
      rw [gotE_error (show octM [] = .error 9 from rfl)]
      obtain ⟨A, n, c, h1, h2, h3⟩ := h.row
      obtain rfl : n = 0 := by simpa using (rds_len h2).symm
      have hc := h1.cell
      have HF := Lib.hid (rfail b 9 _ w h)
      go_enter Try.func60, Try.ntmps60
      go_wp2_with (go_at_call 70; refine HF.out.mono ?_; rintro e w3 ⟨rfl, hc3, hs3⟩)
      go_ret
      exact ⟨rfl, hc3, hs3⟩
    | cons x bs =>
      rw [gotE_ok (show octM (x :: bs) = .ok (x, bs) from rfl)]
      obtain ⟨A, n, c, h1, h2, h3⟩ := h.row
      have hn := rds_len h2
      rw [List.length_cons] at hn
      obtain ⟨ad, rfl⟩ := h2.some_ (by omega)
      have hle := h2.le
      have hx := h2.cell ad rfl 0 (.int .u8 x) (by simp [nums])
      have hadd0 : ad.add 0 = ad := by unfold Addr.add; cases ad; rename_i bl o i; cases i <;> simp
      rw [hadd0] at hx
      have hc := h1.cell
      have hf := h1.free
      have hn1 : (1 : Int) ≤ n := by omega
      have hn0 : ((n : Int) == 0) = false := by simp; omega
      have HCU := Lib.hid (h.cut (v := 1) h1 h2 h3 (by omega))
      clear h h1 h2 h3
      go_enter Try.func60, Try.ntmps60
      go_wp2
      all_goals
        have hcu := HCU.out
        go_ret
        refine ⟨rfl, Chg.setCell (S := fun k => k = b) (Chg.refl _ _) b 0 _ rfl, ?_⟩
        first | (have hc : c = 1 := (by assumption); simp [hc] at hcu; exact hcu) | (have hc : ¬ c = 1 := (by assumption); simp [hc] at hcu; exact hcu)
  · rw [gotE_err h0]
    have hx0 : (er != 0) = true := by simpa using h0
    clear h0
    go_enter Try.func60, Try.ntmps60
    go_wp2
    go_ret
    exact ⟨rfl, Chg.refl _ _, h⟩
set_option maxRecDepth 100000 in
set_option maxHeartbeats 4000000 in
theorem refFlag (b : Nat) (er : Int) (bs : List Int) (w : World) (h : RSrc L B w b bs er) :
    Calls Try.prog 58 #[.pointer (some ⟨b, 0, none⟩)] w (TellsR (fun v => .bool v) L B w b (gotE false flagM bs er)) := by
  have HW := Lib.hid (refByte b er bs w h)
  by_cases h0 : er = 0
  · subst h0
    cases hn : octM bs with
    | error x =>
      rw [gotE_error (f := flagM) (by unfold flagM; rw [hn]; rfl)]
      rw [gotE_error hn] at HW
      clear hn
      go_enter Try.func58, Try.ntmps58
      go_wp2_with (go_at_call 60; refine HW.out.mono ?_; rintro e w2 ⟨rfl, hc2, hs2⟩)
      go_ret
      exact ⟨rfl, hc2, hs2⟩
    | ok q =>
      obtain ⟨x, rest⟩ := q
      rw [gotE_ok hn] at HW
      by_cases hx : x ≤ 1
      · rw [gotE_ok (f := flagM) (by unfold flagM; rw [hn]; simp only [thenE]; rw [if_pos hx])]
        have hx' : decide (1 < x) = false := by simp; omega
        clear hn
        go_enter Try.func58, Try.ntmps58
        go_wp2_with (go_at_call 60; refine HW.out.mono ?_; rintro e w2 ⟨rfl, hc2, hs2⟩)
        go_ret
        exact ⟨rfl, hc2, hs2⟩
      · rw [gotE_error (f := flagM) (by unfold flagM; rw [hn]; simp only [thenE]; rw [if_neg hx])]
        have hx' : decide (1 < x) = true := by simp; omega
        clear hn
        go_enter Try.func58, Try.ntmps58
        go_wp2_with (first
          | (go_at_call 60; refine HW.out.mono ?_; rintro e w2 ⟨rfl, hc2, hs2⟩; have HF := Lib.hid (rfail b 10 _ w2 hs2))
          | (go_at_call 70; refine HF.out.mono ?_; rintro e w3 ⟨rfl, hc3, hs3⟩))
        go_ret
        exact ⟨rfl, hc2.trans hc3, hs3⟩
  · rw [gotE_err h0]
    rw [gotE_err h0] at HW
    clear h0
    go_enter Try.func58, Try.ntmps58
    go_wp2_with (go_at_call 60; refine HW.out.mono ?_; rintro e w2 ⟨rfl, hc2, hs2⟩)
    go_ret
    exact ⟨rfl, hc2, hs2⟩
set_option maxRecDepth 100000 in
set_option maxHeartbeats 8000000 in
theorem refText (b : Nat) (a er : Int) (bs : List Int) (w : World) (h : RSrc L B w b bs er) (hb : U8s bs) (hlen : bs.length ≤ 1000000) (hI : I64 a) :
    Calls Try.prog 57 #[.pointer (some ⟨b, 0, none⟩), .int .i64 a] w (TellsR (fun t => .string (strOfNums t)) L B w b (gotE [] (fun bs => textM bs a) bs er)) := by
  have HW := Lib.hid (rnumW b er bs w h hb hlen)
  by_cases h0 : er = 0
  · subst h0
    cases hn : numS bs with
    | error x =>
      rw [gotE_error (f := fun bs => textM bs a) (by show textM bs a = _; unfold textM countM; rw [hn]; rfl)]
      rw [gotE_error hn] at HW
      have hx0 : (x != 0) = true := by simpa using numS_err hb hn
      clear hn
      go_enter Try.func57, Try.ntmps57
      go_wp2_with (go_at_call 69; refine HW.out.mono ?_; rintro e w2 ⟨rfl, hc2, hs2⟩; have he := hs2.err.cell)
      go_ret
      exact ⟨rfl, hc2, hs2⟩
    | ok q =>
      obtain ⟨v, rest⟩ := q
      rw [gotE_ok hn] at HW
      have hv64 := (numS_rest hb hn).1
      have hrl := (numS_rest hb hn).2.2
      have hcm : countM bs a = if (v : Int) ≤ max a 0 then .ok (v, rest) else .error 8 := by unfold countM; rw [hn]; rfl
      obtain ⟨M, hM⟩ : ∃ M : Nat, max a 0 = (M : Int) := ⟨(max a 0).toNat, by omega⟩
      have hMlt : M < 9223372036854775808 := by unfold I64 at hI; omega
      have HWR : Hid (IntKind.u64.wrap (M : Int) = M) := by show _ = _; rw [IntKind.wrap_u64]; omega
      have HMI := Lib.hid hM
      rw [hM] at hcm
      have hneg : a < 0 → M = 0 := by omega
      have hpos : ¬ a < 0 → a = M := by omega
      clear hn hI hM
      by_cases hvM : v ≤ M
      · rw [if_pos (by omega)] at hcm
        by_cases hx : v ≤ rest.length
        · have HX : Hid (textM bs a = .ok (rest.take v, rest.drop v)) := textM_pos hcm hx
          rw [gotE_ok (f := fun bs => textM bs a) HX.out]
          clear HX hcm
          by_cases ha : a < 0
          · have hM0 := hneg ha
            subst hM0
            have hv0 : decide ((0 : Int) < v) = false := by simp; omega
            have hv1 : decide (0 < v) = false := by simp; omega
            have hv2 : ¬ (0 : Int) < v := by omega
            have hv3 : ¬ 0 < v := by omega
            clear hneg hpos hvM
            go_enter Try.func57, Try.ntmps57
            go_wp2_with (go_at_call 69; refine HW.out.mono ?_; rintro e w2 ⟨rfl, hc2, hs2⟩; have he := hs2.err.cell; obtain ⟨A, n, c, r1, r2, r3⟩ := hs2.row; have hrn : rest.length = n := rds_len r2; have k2 := r1.cell; have k3 := r1.free; have hn1000 : n ≤ 1000000 := (by omega); have hnw : IntKind.u64.wrap (n : Int) = n := (by rw [IntKind.wrap_u64]; omega); have hx1 : decide ((n : Int) < v) = false := (by simp; omega); have hx2 : decide (n < v) = false := (by simp; omega); have hx3 : ¬ n < v := (by omega); have hx4 : (v : Int) ≤ n := (by omega); have hx5 : (v : Int) ≤ c := (by have := r2.le; omega); have hst := conv_str Try.underlying22 Try.underlying5 Try.underlying9 (by have e := r2.take_ v (by omega); rwa [show (nums .u8 rest).take (v * 1) = nums .u8 (rest.take v) by simp [nums]] at e))
            all_goals
              have hcu := hs2.cut r1 r2 r3 (v := v) (by omega)
              go_ret
              refine ⟨rfl, hc2.trans (Chg.setCell (S := fun k => k = b) (Chg.refl _ _) b 0 _ rfl), ?_⟩
              first | (have hc : c = v := (by assumption); simp [hc] at hcu; exact hcu) | (have hc : ¬ c = v := (by assumption); simp [hc] at hcu; exact hcu)
          · obtain rfl := hpos ha
            have hv0 : decide ((M : Int) < v) = false := by simp; omega
            have hv1 : decide (M < v) = false := by simp; omega
            have hv2 : ¬ (M : Int) < v := by omega
            have hv3 : ¬ M < v := by omega
            have hwr := HWR.out
            clear hneg hpos hvM
            go_enter Try.func57, Try.ntmps57
            go_wp2_with (go_at_call 69; refine HW.out.mono ?_; rintro e w2 ⟨rfl, hc2, hs2⟩; have he := hs2.err.cell; obtain ⟨A, n, c, r1, r2, r3⟩ := hs2.row; have hrn : rest.length = n := rds_len r2; have k2 := r1.cell; have k3 := r1.free; have hn1000 : n ≤ 1000000 := (by omega); have hnw : IntKind.u64.wrap (n : Int) = n := (by rw [IntKind.wrap_u64]; omega); have hx1 : decide ((n : Int) < v) = false := (by simp; omega); have hx2 : decide (n < v) = false := (by simp; omega); have hx3 : ¬ n < v := (by omega); have hx4 : (v : Int) ≤ n := (by omega); have hx5 : (v : Int) ≤ c := (by have := r2.le; omega); have hst := conv_str Try.underlying22 Try.underlying5 Try.underlying9 (by have e := r2.take_ v (by omega); rwa [show (nums .u8 rest).take (v * 1) = nums .u8 (rest.take v) by simp [nums]] at e))
            all_goals
              have hcu := hs2.cut r1 r2 r3 (v := v) (by omega)
              go_ret
              refine ⟨rfl, hc2.trans (Chg.setCell (S := fun k => k = b) (Chg.refl _ _) b 0 _ rfl), ?_⟩
              first | (have hc : c = v := (by assumption); simp [hc] at hcu; exact hcu) | (have hc : ¬ c = v := (by assumption); simp [hc] at hcu; exact hcu)
        · rw [gotE_error (f := fun bs => textM bs a) (textM_neg hcm hx)]
          clear hcm
          by_cases ha : a < 0
          · have hM0 := hneg ha
            omega
          · obtain rfl := hpos ha
            have hv0 : decide ((M : Int) < v) = false := by simp; omega
            have hv1 : decide (M < v) = false := by simp; omega
            have hv2 : ¬ (M : Int) < v := by omega
            have hv3 : ¬ M < v := by omega
            have hwr := HWR.out
            clear hneg hpos hvM
            go_enter Try.func57, Try.ntmps57
            go_wp2_with (first
              | (go_at_call 69; refine HW.out.mono ?_; rintro e w2 ⟨rfl, hc2, hs2⟩; have he := hs2.err.cell; have HF := Lib.hid (rfail b 9 _ w2 hs2); obtain ⟨A, n, c, r1, r2, r3⟩ := hs2.row; have hrn : rest.length = n := rds_len r2; have k2 := r1.cell; have k3 := r1.free; have hn1000 : n ≤ 1000000 := (by omega); have hnw : IntKind.u64.wrap (n : Int) = n := (by rw [IntKind.wrap_u64]; omega); have hx1 : decide ((n : Int) < v) = true := (by simp; omega); have hx2 : decide (n < v) = true := (by simp; omega); have hx3 : n < v := (by omega); have hx4 : (n : Int) < v := (by omega))
              | (go_at_call 70; refine HF.out.mono ?_; rintro e w3 ⟨rfl, hc3, hs3⟩))
            go_ret
            exact ⟨rfl, hc2.trans hc3, hs3⟩
      · rw [if_neg (by omega)] at hcm
        rw [gotE_error (f := fun bs => textM bs a) (by show textM bs a = _; unfold textM; rw [hcm]; rfl)]
        clear hcm
        by_cases ha : a < 0
        · have hM0 := hneg ha
          subst hM0
          have hv0 : decide ((0 : Int) < v) = true := by simp; omega
          have hv1 : decide (0 < v) = true := by simp; omega
          have hv2 : (0 : Int) < v := by omega
          have hv3 : 0 < v := by omega
          clear hneg hpos hvM
          go_enter Try.func57, Try.ntmps57
          go_wp2_with (first
            | (go_at_call 69; refine HW.out.mono ?_; rintro e w2 ⟨rfl, hc2, hs2⟩; have he := hs2.err.cell; have HF := Lib.hid (rfail b 8 _ w2 hs2))
            | (go_at_call 70; refine HF.out.mono ?_; rintro e w3 ⟨rfl, hc3, hs3⟩))
          go_ret
          exact ⟨rfl, hc2.trans hc3, hs3⟩
        · obtain rfl := hpos ha
          have hv0 : decide ((M : Int) < v) = true := by simp; omega
          have hv1 : decide (M < v) = true := by simp; omega
          have hv2 : (M : Int) < v := by omega
          have hv3 : M < v := by omega
          have hwr := HWR.out
          clear hneg hpos hvM
          go_enter Try.func57, Try.ntmps57
          go_wp2_with (first
            | (go_at_call 69; refine HW.out.mono ?_; rintro e w2 ⟨rfl, hc2, hs2⟩; have he := hs2.err.cell; have HF := Lib.hid (rfail b 8 _ w2 hs2))
            | (go_at_call 70; refine HF.out.mono ?_; rintro e w3 ⟨rfl, hc3, hs3⟩))
          go_ret
          exact ⟨rfl, hc2.trans hc3, hs3⟩
  · rw [gotE_err h0]
    rw [gotE_err h0] at HW
    have hx0 : (er != 0) = true := by simpa using h0
    clear h0
    go_enter Try.func57, Try.ntmps57
    go_wp2_with (go_at_call 69; refine HW.out.mono ?_; rintro e w2 ⟨rfl, hc2, hs2⟩; have he := hs2.err.cell)
    go_ret
    exact ⟨rfl, hc2, hs2⟩
set_option maxRecDepth 100000 in
set_option maxHeartbeats 2000000 in
theorem refEnd (b : Nat) (er : Int) (bs : List Int) (w : World) (h : RSrc L B w b bs er) : Calls Try.prog 32 #[.pointer (some ⟨b, 0, none⟩)] w fun e w' => e = .returned (.int .i64 (endE bs er)) ∧ w = w' := by
  obtain ⟨A, n, c, h1, h2, h3⟩ := h.row
  have hn := rds_len h2
  have c1 := h1.cell
  have c2 := h.err.cell
  by_cases h0 : er = 0
  · subst h0
    by_cases hl : 0 < bs.length
    · have e1 : endE bs 0 = 10 := by unfold endE; rw [if_neg (by decide), if_pos hl]
      rw [e1]
      have hl' : (0 : Int) < n := by omega
      have hl2 : 0 < n := by omega
      clear h e1 h1 h2 h3
      go_enter Try.func32, Try.ntmps32
      go_wp2
      go_ret
      exact ⟨rfl, rfl⟩
    · have e1 : endE bs 0 = 0 := by unfold endE; rw [if_neg (by decide), if_neg hl]
      rw [e1]
      obtain rfl : n = 0 := by omega
      clear h e1 h1 h2 h3
      go_enter Try.func32, Try.ntmps32
      go_wp2
      go_ret
      exact ⟨rfl, rfl⟩
  · have e1 : endE bs er = er := by unfold endE; rw [if_pos h0]
    rw [e1]
    have hn : (er == 0) = false := by simpa using h0
    clear h e1 h0
    go_enter Try.func32, Try.ntmps32
    go_wp2
    go_ret
    exact ⟨rfl, rfl⟩
end Go.Proofs.Ytdhckbpfkdekmaa
