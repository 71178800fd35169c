/- Package code: what each getter's step does: Int, Flag, Text. -/
import Derived.Test.YtdhckbpfkdekmaaSrcStep
import Derived.Test.YtdhckbpfkdekmaaRegionS
namespace Go.Proofs.Ytdhckbpfkdekmaa
open Go.RowKit
variable {B : Nat}
set_option maxRecDepth 100000 in
set_option maxHeartbeats 4000000 in
theorem int1 (sb lb mb b : Nat) (er : Int) (bs : List Int) (least most : Int) (w : World) (h : Src B w b bs er) (hb : U8s bs) (hs : Box w sb 0 (.pointer (some ⟨b, 0, none⟩))) (hl : Box w lb 0 (.int .i64 least)) (hm : Box w mb 0 (.int .i64 most)) :
    Calls Try.prog 44 #[.pointer (some ⟨sb, 0, none⟩), .pointer (some ⟨lb, 0, none⟩), .pointer (some ⟨mb, 0, none⟩)] w (GotV (fun v => .int .i64 v) B w b er (withinM bs least most)) := by
  have HW := Lib.hid (within_walk (B := B) b er bs least most w h hb)
  have h1 := hs.cell
  have h2 := hl.cell
  have h3 := hm.cell
  cases hn : withinM bs least most with
  | error e0 =>
    rw [hn] at HW
    clear hn
    go_enter Try.func44, Try.ntmps44
    go_wp2_with (go_at_call 45; refine HW.out.mono ?_; rintro e w2 ⟨he2, hc2, bs2, hs2⟩; unfold thrown at he2; subst he2)
    exact ⟨rfl, GotV.error_ rfl hc2 hs2⟩
  | ok q =>
    obtain ⟨v, rest⟩ := q
    rw [hn] at HW
    clear hn
    go_enter Try.func44, Try.ntmps44
    go_wp2_with (go_at_call 45; refine HW.out.mono ?_; rintro e w2 ⟨rfl, hc2, hs2⟩)
    go_ret
    exact GotV.ok_ (val := fun v => .int .i64 v) rfl hc2 hs2
/-- The next byte. -/
theorem octet_walk (b : Nat) (er : Int) (bs : List Int) (w : World) (h : Src B w b bs er) : Calls Try.prog 51 #[.pointer (some ⟨b, 0, none⟩)] w (GotV (fun v => .int .u8 v) B w b er (octM bs)) := by
  cases bs with
  | nil =>
    refine (octet_none b er w h).mono ?_
    rintro e w1 ⟨rfl, rfl⟩
    exact ⟨rfl, Chg.refl _ _, [], h⟩
  | cons x bs =>
    refine (octet_some b er x bs w h).mono ?_
    rintro e w1 ⟨rfl, hc, hs⟩
    exact ⟨rfl, hc, hs⟩
set_option maxRecDepth 100000 in
set_option maxHeartbeats 4000000 in
theorem flag1 (sb b : Nat) (er : Int) (bs : List Int) (w : World) (h : Src B w b bs er) (hs : Box w sb 0 (.pointer (some ⟨b, 0, none⟩))) :
    Calls Try.prog 50 #[.pointer (some ⟨sb, 0, none⟩)] w (GotV (fun v => .bool v) B w b er (flagM bs)) := by
  have HW := Lib.hid (octet_walk (B := B) b er bs w h)
  have h1 := hs.cell
  have HM := Lib.hid (fun W => must_no 10 W)
  unfold faultV at HM
  have HY := Lib.hid (fun W => must_yes 10 W)
  cases hn : octM bs with
  | error e0 =>
    have HX : Hid (flagM bs = .error e0) := by show _ = _; unfold flagM; rw [hn]; rfl
    rw [hn] at HW
    clear hn
    go_enter Try.func50, Try.ntmps50
    go_wp2_with (go_at_call 51; refine HW.out.mono ?_; rintro e w2 ⟨he2, hc2, bs2, hs2⟩; unfold thrown at he2; subst he2)
    exact ⟨rfl, GotV.error_ HX.out hc2 hs2⟩
  | ok q =>
    obtain ⟨x, rest⟩ := q
    rw [hn] at HW
    by_cases hx : x ≤ 1
    · have HX : Hid (flagM bs = .ok (decide (x = 1), rest)) := by show _ = _; unfold flagM; rw [hn]; simp only [thenE]; rw [if_pos hx]
      clear hn
      go_enter Try.func50, Try.ntmps50
      go_wp2_with (first
        | (go_at_call 51; refine HW.out.mono ?_; rintro e w2 ⟨rfl, hc2, hs2⟩)
        | (go_at_call 41; (with_reducible refine (HY.out _).mono ?_); rintro e w3 ⟨rfl, rfl⟩))
      go_ret
      exact GotV.ok_ (val := fun v => .bool v) HX.out hc2 hs2
    · have HX : Hid (flagM bs = .error 10) := by show _ = _; unfold flagM; rw [hn]; simp only [thenE]; rw [if_neg hx]
      have hx' : decide (x ≤ 1) = false := decide_eq_false hx
      clear hn hx
      go_enter Try.func50, Try.ntmps50
      go_wp2_with (first
        | (go_at_call 51; refine HW.out.mono ?_; rintro e w2 ⟨rfl, hc2, hs2⟩)
        | (go_at_call 41; (with_reducible refine (HM.out _).mono ?_); rintro e w3 ⟨rfl, rfl⟩))
      exact ⟨rfl, GotV.error_ HX.out hc2 hs2⟩
theorem Rds.cut {w : World} {A : Option Addr} {n c : Nat} {cs : List Value} (h : Rds w 1 A n c cs) (k : Nat) (hk : k ≤ n) : Rds w 1 (if c = k then A else A.map (·.add k)) (n - k) (c - k) (cs.drop k) := by
  have hl := h.len
  have hle := h.le
  refine ⟨by rw [List.length_drop]; omega, by omega, by have := h.max; omega, (fun e => ?_), fun a e j u hj => ?_⟩
  · split at e
    · omega
    · cases A with
      | none => have := h.nil_n; omega
      | some ad => cases e
  · cases A with
    | none => split at e <;> cases e
    | some ad =>
      by_cases hc : c = k
      · rw [List.drop_of_length_le (by omega)] at hj
        simp at hj
      · rw [if_neg hc] at e
        cases e
        show w.cell? ((ad.add k).add j) = some u
        rw [Go.Deep.add_add]
        refine h.cell ad rfl _ _ ?_
        rw [← hj, List.getElem?_drop]
theorem Src.cut {w : World} {b v : Nat} {bs : List Int} {er : Int} (h : Src B w b bs er) {A : Option Addr} {n c : Nat} (h1 : Box w b 1 (.slice A n c)) (h2 : Rds w 1 A n c (nums .u8 bs)) (h3 : ∀ ad, A = some ad → ad.block ≠ b ∧ ad.block < B) (hv : v ≤ n) :
    Src B (w.setCell ⟨b, 1, none⟩ (.slice (if c = v then A else A.map (·.add v)) (n - v : Nat) (c - v : Nat))) b (bs.drop v) er := by
  have hch : ∀ v, Chg (fun k => k = b) w (w.setCell ⟨b, 1, none⟩ v) := fun v => Chg.setCell (S := fun k => k = b) (Chg.refl _ _) b 1 _ rfl
  have hA : ∀ ad, (if c = v then A else A.map (·.add v)) = some ad → ad.block ≠ b ∧ ad.block < B := by
    intro ad e
    cases A with
    | none => split at e <;> cases e
    | some a =>
      split at e
      · exact h3 ad e
      · cases e
        have hbk : (a.add v).block = a.block := by unfold Addr.add; split <;> rfl
        rw [hbk]
        exact h3 a rfl
  refine ⟨h.made.other (by decide) _, ⟨_, _, _, h1.set _, ?_, hA⟩, h.err.other (by decide) _⟩
  have hr := h2.cut v hv
  rw [show (nums .u8 bs).drop v = nums .u8 (bs.drop v) by simp [nums]] at hr
  exact (hch _).rds hr (fun a e => (hA a e).1)
theorem textM_pos {bs : List Int} {most : Int} {v : Nat} {rest : List Int} (hn : countM bs most = .ok (v, rest)) (h : v ≤ rest.length) : textM bs most = .ok (rest.take v, rest.drop v) := by
  unfold textM; rw [hn]; simp only [thenE]; rw [if_pos h]
theorem textM_neg {bs : List Int} {most : Int} {v : Nat} {rest : List Int} (hn : countM bs most = .ok (v, rest)) (h : ¬ v ≤ rest.length) : textM bs most = .error 9 := by
  unfold textM; rw [hn]; simp only [thenE]; rw [if_neg h]
set_option maxRecDepth 100000 in
set_option maxHeartbeats 8000000 in
theorem text1 (sb mb b : Nat) (er : Int) (bs : List Int) (most : Int) (w : World) (h : Src B w b bs er) (hb : U8s bs) (hs : Box w sb 0 (.pointer (some ⟨b, 0, none⟩))) (hm : Box w mb 0 (.int .i64 most)) (hI : I64 most) (hsb : sb ≠ b) :
    Calls Try.prog 47 #[.pointer (some ⟨sb, 0, none⟩), .pointer (some ⟨mb, 0, none⟩)] w (GotV (fun t => .string (strOfNums t)) B w b er (textM bs most)) := by
  have HW := Lib.hid (count_walk (B := B) b er bs most w h hb hI)
  have h1 := hs.cell
  have h2 := hm.cell
  have HM := Lib.hid (fun W => must_no 9 W)
  unfold faultV at HM
  have HY := Lib.hid (fun W => must_yes 9 W)
  cases hn : countM bs most with
  | error e0 =>
    have HX : Hid (textM bs most = .error e0) := by show _ = _; unfold textM; rw [hn]; rfl
    rw [hn] at HW
    clear hn
    go_enter Try.func47, Try.ntmps47
    go_wp2_with (go_at_call 48; refine HW.out.mono ?_; rintro e w2 ⟨he2, hc2, bs2, hs2⟩; unfold thrown at he2; subst he2)
    exact ⟨rfl, GotV.error_ HX.out hc2 hs2⟩
  | ok q =>
    obtain ⟨v, rest⟩ := q
    rw [hn] at HW
    by_cases hx : v ≤ rest.length
    · have HX : Hid (textM bs most = .ok (rest.take v, rest.drop v)) := textM_pos hn hx
      have HL : Hid (v ≤ rest.length) := hx
      clear hn hx hI
      go_enter Try.func47, Try.ntmps47
      go_wp2_with (first
        | (go_at_call 48; refine HW.out.mono ?_; rintro e w2 ⟨rfl, hc2, hs2⟩; obtain ⟨A, n, c, r1, r2, r3⟩ := hs2.row; have hrl := rds_len r2; have hvn : (v : Int) ≤ n := (by have := HL.out; omega); have hvc : (v : Int) ≤ c := (by have := r2.le; omega); have hsk := hs.keep hc2 hsb; have k1 := hsk.cell; have k2 := r1.cell; have hst := conv_str Try.underlying22 Try.underlying5 Try.underlying9 (by have e := r2.take_ v (by omega); rwa [show (nums .u8 rest).take (v * 1) = nums .u8 (rest.take v) by simp [nums]] at e))
        | (go_at_call 41; (with_reducible refine (HY.out _).mono ?_); rintro e w3 ⟨rfl, rfl⟩))
      obtain ⟨T, hT⟩ : ∃ T : Nat → Fact, ∀ t_, T t_ = ([Fact.eq (.pointer (some ⟨b, 0, none⟩)), Fact.eq (.pointer (some ⟨b, 0, none⟩)), Fact.eq (.pointer (some ⟨b, 0, none⟩)), Fact.eq (.pointer (some ⟨b, 1, none⟩)), Fact.eq (.slice A n c), Fact.eq (.int .i64 v), Fact.eq (.slice (if c = v then A else A.map (·.add v)) (n - v : Nat) (c - v : Nat)), Fact.eq (.pointer (some ⟨b, 0, none⟩)), Fact.eq (.pointer (some ⟨b, 1, none⟩)), Fact.eq (undef)] : List (Fact)).getD t_ Fact.any := ⟨_, fun _ => rfl⟩
      refine region_tabS 9 [(0, 23), (1, 24), (2, 25), (3, 26), (4, 27), (5, 28), (6, 29), (7, 30), (8, 31)] T (by kernel_rfl) (by kernel_rfl) (by kernel_rfl) (by kernel_rfl) (by kernel_rfl) (by kernel_rfl) (by kernel_rfl) ?_ ?_
      · skip
        refine stepsAll_cons (k := 0) ?_ ?_
        · intro fa fx fW hF fB hE K fK
          have ev0 : fa.tmps[0]?.getD undef = .pointer (some ⟨sb, 0, none⟩) := hF.eo 0 (by kernel_rfl)
          have y0 := (hsk.below fB).cell
          refine wpOp_val rfl (wanted_none rfl) ?_ (fK (.pointer (some ⟨b, 0, none⟩)) fW (Below.refl _ _) (by rw [hT]; exact rfl))
          clear fK hE hF
          go_simp
        refine stepsAll_cons (k := 1) ?_ ?_
        · intro fa fx fW hF fB hE K fK
          have ev0 : fa.tmps[0]?.getD undef = .pointer (some ⟨sb, 0, none⟩) := hF.eo 0 (by kernel_rfl)
          have y0 := (hsk.below fB).cell
          refine wpOp_val rfl (wanted_none rfl) ?_ (fK (.pointer (some ⟨b, 0, none⟩)) fW (Below.refl _ _) (by rw [hT]; exact rfl))
          clear fK hE hF
          go_simp
        refine stepsAll_cons (k := 2) ?_ ?_
        · intro fa fx fW hF fB hE K fK
          have q1 : fx 1 = .pointer (some ⟨b, 0, none⟩) := by have q := hE ⟨1, .data⟩ (by simp) rfl; rw [hT] at q; exact q
          have ev24 : fa.tmps[24]?.getD undef = .pointer (some ⟨b, 0, none⟩) := (hF.ev 1 24 (by kernel_rfl)).trans q1
          refine wpOp_val rfl (wanted_none rfl) ?_ (fK (.pointer (some ⟨b, 0, none⟩)) fW (Below.refl _ _) (by rw [hT]; exact rfl))
          clear fK hE hF
          go_simp
        refine stepsAll_cons (k := 3) ?_ ?_
        · intro fa fx fW hF fB hE K fK
          have q2 : fx 2 = .pointer (some ⟨b, 0, none⟩) := by have q := hE ⟨2, .data⟩ (by simp) rfl; rw [hT] at q; exact q
          have ev25 : fa.tmps[25]?.getD undef = .pointer (some ⟨b, 0, none⟩) := (hF.ev 2 25 (by kernel_rfl)).trans q2
          refine wpOp_val rfl (wanted_none rfl) ?_ (fK (.pointer (some ⟨b, 1, none⟩)) fW (Below.refl _ _) (by rw [hT]; exact rfl))
          clear fK hE hF
          go_simp
        refine stepsAll_cons (k := 4) ?_ ?_
        · intro fa fx fW hF fB hE K fK
          have q3 : fx 3 = .pointer (some ⟨b, 1, none⟩) := by have q := hE ⟨3, .data⟩ (by simp) rfl; rw [hT] at q; exact q
          have ev26 : fa.tmps[26]?.getD undef = .pointer (some ⟨b, 1, none⟩) := (hF.ev 3 26 (by kernel_rfl)).trans q3
          have y0 := (r1.below fB).cell
          refine wpOp_val rfl (wanted_none rfl) ?_ (fK (.slice A n c) fW (Below.refl _ _) (by rw [hT]; exact rfl))
          clear fK hE hF
          go_simp
        refine stepsAll_cons (k := 5) ?_ ?_
        · intro fa fx fW hF fB hE K fK
          have ev3 : fa.tmps[3]?.getD undef = .int .i64 v := hF.eo 3 (by kernel_rfl)
          refine wpOp_val rfl (wanted_none rfl) ?_ (fK (.int .i64 v) fW (Below.refl _ _) (by rw [hT]; exact rfl))
          clear fK hE hF
          go_simp
        refine stepsAll_cons (k := 6) ?_ ?_
        · intro fa fx fW hF fB hE K fK
          have q4 : fx 4 = .slice A n c := by have q := hE ⟨4, .data⟩ (by simp) rfl; rw [hT] at q; exact q
          have q5 : fx 5 = .int .i64 v := by have q := hE ⟨5, .data⟩ (by simp) rfl; rw [hT] at q; exact q
          have ev27 : fa.tmps[27]?.getD undef = .slice A n c := (hF.ev 4 27 (by kernel_rfl)).trans q4
          have ev28 : fa.tmps[28]?.getD undef = .int .i64 v := (hF.ev 5 28 (by kernel_rfl)).trans q5
          refine wpOp_val rfl (wanted_none rfl) ?_ (fK (.slice (if c = v then A else A.map (·.add v)) (n - v : Nat) (c - v : Nat)) fW (Below.refl _ _) (by rw [hT]; exact rfl))
          clear fK hE hF
          go_simp
        refine stepsAll_cons (k := 7) ?_ ?_
        · intro fa fx fW hF fB hE K fK
          have q0 : fx 0 = .pointer (some ⟨b, 0, none⟩) := by have q := hE ⟨0, .data⟩ (by simp) rfl; rw [hT] at q; exact q
          have ev23 : fa.tmps[23]?.getD undef = .pointer (some ⟨b, 0, none⟩) := (hF.ev 0 23 (by kernel_rfl)).trans q0
          refine wpOp_val rfl (wanted_none rfl) ?_ (fK (.pointer (some ⟨b, 0, none⟩)) fW (Below.refl _ _) (by rw [hT]; exact rfl))
          clear fK hE hF
          go_simp
        refine stepsAll_cons (k := 8) ?_ ?_
        · intro fa fx fW hF fB hE K fK
          have q7 : fx 7 = .pointer (some ⟨b, 0, none⟩) := by have q := hE ⟨7, .data⟩ (by simp) rfl; rw [hT] at q; exact q
          have ev30 : fa.tmps[30]?.getD undef = .pointer (some ⟨b, 0, none⟩) := (hF.ev 7 30 (by kernel_rfl)).trans q7
          refine wpOp_val rfl (wanted_none rfl) ?_ (fK (.pointer (some ⟨b, 1, none⟩)) fW (Below.refl _ _) (by rw [hT]; exact rfl))
          clear fK hE hF
          go_simp
        exact stepsAll_nil
      intro fa fx fW hF fB hx
      have q6 : fx 6 = .slice (if c = v then A else A.map (·.add v)) (n - v : Nat) (c - v : Nat) := by have q := hx 6 (by decide); rw [hT] at q; exact q
      have ev29 : fa.tmps[29]?.getD undef = .slice (if c = v then A else A.map (·.add v)) (n - v : Nat) (c - v : Nat) := (hF.ev 6 29 (by kernel_rfl)).trans q6
      have q8 : fx 8 = .pointer (some ⟨b, 1, none⟩) := by have q := hx 8 (by decide); rw [hT] at q; exact q
      have ev31 : fa.tmps[31]?.getD undef = .pointer (some ⟨b, 1, none⟩) := (hF.ev 8 31 (by kernel_rfl)).trans q8
      have y0 := (r1.below fB).cell
      have y1 := (r1.below fB).free
      refine wpOp_fin rfl (wanted_none rfl) rfl (W' := fW.setCell ⟨b, 1, none⟩ (.slice (if c = v then A else A.map (·.add v)) (n - v : Nat) (c - v : Nat))) ?_ ?_
      · clear hF hx
        go_simp
      refine tail_end ?_
      rw [hF.eq]
      clear hF hx
      simp only [putAll, Act.put, List.setIfInBounds_toArray, List.set_cons_zero, List.set_cons_succ, ]
      have hcut := (hs2.below fB).cut (r1.below fB) (r2.below fB) r3 (v := v) (by omega)
      have hcc := (hc2.trans (Chg.of_below fB)).trans (Chg.setCell (S := fun k => k = b) (Chg.refl _ _) b 1 (.slice (if c = v then A else A.map (·.add v)) (n - v : Nat) (c - v : Nat)) rfl)
      generalize (if c = v then A else A.map (·.add v)) = A5 at hcut hcc ⊢
      go_wp2
      go_ret
      exact GotV.ok_ (val := fun t => .string (strOfNums t)) HX.out hcc hcut
    · have HX : Hid (textM bs most = .error 9) := textM_neg hn hx
      have HL : Hid (¬ v ≤ rest.length) := hx
      clear hn hx
      go_enter Try.func47, Try.ntmps47
      go_wp2_with (first
        | (go_at_call 48; refine HW.out.mono ?_; rintro e w2 ⟨rfl, hc2, hs2⟩; obtain ⟨A, n, c, r1, r2, r3⟩ := hs2.row; have hrl := rds_len r2; have hvn : decide ((v : Int) ≤ n) = false := decide_eq_false (by have := HL.out; omega); have hvn2 : decide (v ≤ n) = false := decide_eq_false (by have := HL.out; omega); have k1 := (hs.keep hc2 hsb).cell; have k2 := r1.cell)
        | (go_at_call 41; (with_reducible refine (HM.out _).mono ?_); rintro e w3 ⟨rfl, rfl⟩))
      exact ⟨rfl, GotV.error_ HX.out hc2 hs2⟩
end Go.Proofs.Ytdhckbpfkdekmaa
