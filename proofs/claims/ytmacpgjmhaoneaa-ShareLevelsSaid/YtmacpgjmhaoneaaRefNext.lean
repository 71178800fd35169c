/- wherryref08: Next. -/
import Derived.Test.YtmacpgjmhaoneaaRefLevel
namespace Go.Proofs.Ytmacpgjmhaoneaa
open Go.RowKit
/-- The place where a round begins, as the reference finds it. -/
theorem at_of (start : Int) (n : Nat) (h0 : 0 < n) : (0 ≤ start → start % n = (atN start n : Nat)) ∧ (start < 0 → start.tmod n < 0 → start.tmod n + n = (atN start n : Nat)) ∧ (start < 0 → ¬ start.tmod n < 0 → start.tmod n = (atN start n : Nat)) := by
  have h1 := Int.emod_nonneg start (show (n : Int) ≠ 0 by omega)
  have h2 := Int.emod_lt_of_pos start (show (0 : Int) < n by omega)
  have ht := Int.tmod_eq_emod (a := start) (b := n)
  unfold atN
  refine ⟨fun _ => by omega, fun h3 h4 => ?_, fun h3 h4 => ?_⟩
  · rw [ht] at h4 ⊢
    split at h4
    · omega
    · rename_i hs
      rw [if_neg hs]
      omega
  · rw [ht] at h4 ⊢
    split at h4
    · rename_i hs
      rw [if_pos hs]
      omega
    · omega
theorem roundC_get {n a k : Nat} (hk : k < n) : (roundC n a)[k]? = some ((a + k) % n) := by simp [roundC, hk]
theorem roundC_take {l : List Cl} {xs : List Int} {n a k : Nat} (hk : k < n) : nextC l xs ((roundC n a).take (k + 1)) = stepC l xs (nextC l xs ((roundC n a).take k)) ((a + k) % n) := by
  have hl : k < (roundC n a).length := by simpa [roundC] using hk
  have hg := roundC_get (n := n) (a := a) hk
  rw [List.getElem?_eq_getElem hl] at hg
  rw [List.take_succ_eq_append_getElem hl, nextC_snoc, Option.some.inj hg]
set_option maxRecDepth 100000 in
set_option maxHeartbeats 4000000 in
theorem next08 (A B : Option Addr) (n c d : Nat) (xs : List Int) (l : List Cl) (start : Int) (w : World) (hr : Rds w 1 A n c (nums .i64 xs)) (hr2 : Rds w 2 B n d (cls l)) (hg : goodC l = true) (h0 : 0 < n) (hs : I64 start) (hx : ∀ x ∈ xs, I64 x) :
    Calls Try.prog 20 #[.slice B n d, .slice A n c, .int .i64 start] w fun e w' => e = .returned (.int .i64 (bestI (nextC l xs (roundC n (atN start n))))) ∧ Below w.heap.size w w' := by
  have hxl : xs.length = n := by have := hr.len; rw [nums_length] at this; omega
  have hll := cls_len hr2
  have HG := Lib.hid (good08 B n d l w hr2)
  rw [hg] at HG
  obtain ⟨g1, g2⟩ := goodC_iff.1 hg
  have hn64 : n ≤ 64 := by omega
  have hdn : ((n : Int) != (n : Int)) = false := by simp
  have hn0 : ((n : Int) == 0) = false := by simp; omega
  have hnz : (0 : Int) < n := by omega
  obtain ⟨k1, k2, k3⟩ := at_of start n h0
  have K1 := Lib.hid k1
  have K2 := Lib.hid k2
  have K3 := Lib.hid k3
  have ha : atN start n < n := by unfold atN; have := Int.emod_lt_of_pos start (show (0 : Int) < n by omega); have := Int.emod_nonneg start (show (n : Int) ≠ 0 by omega); omega
  generalize atN start n = a at *
  have HL := Lib.hid (fun i j hi hj W h1 h2 => level08 A B n c d xs l i j W h1 h2 hg hi hj hx)
  have HX := Lib.hid hx
  unfold I64 at hs
  obtain ⟨s1, s2⟩ := hs
  clear k1 k2 k3 g1 g2 hg hx
  have htl : 0 ≤ start ∨ (start < 0 ∧ start.tmod n < 0) ∨ (start < 0 ∧ ¬ start.tmod n < 0) := by omega
  have htb : start < 0 → -(n : Int) < start.tmod n := by
    intro h
    have h1 := Int.lt_tmod_of_pos start hnz
    omega
  have HTB := Lib.hid htb
  clear htb
  rcases htl with h1 | ⟨h1, h2⟩ | ⟨h1, h2⟩
  case' inl => have htc : 0 ≤ start % (n : Int) := Int.emod_nonneg _ (by omega)
  case' inr.inl => have htc := HTB.out h1
  case' inr.inr => have htc := HTB.out h1
  all_goals
    go_enter Try.func20, Try.ntmps20
    go_wp2_with (go_at_call 13; (with_reducible refine HG.out.mono ?_); rintro e w1 ⟨rfl, hb1⟩)
    first
    | rw [K1.out h1]
    | rw [K2.out h1 h2]
    | rw [K3.out h1 h2]
    clear h1
    try clear h2
    try clear htc

    go_loopw [9, 10] (fun b i wr => ∃ k : Nat, k ≤ n ∧ i = .int .i64 k ∧ b = .int .i64 (bestI (nextC l xs ((roundC n a).take k))) ∧ Below w1.heap.size w1 wr) (fun _ i _ => n - (intOf i).toNat)
    case atStart => exact ⟨0, Nat.zero_le _, rfl, rfl, Below.refl _ _⟩
    case round =>
      obtain ⟨k, hk, rfl, rfl, hbr⟩ := hrel
      by_cases hlt : k < n
      · have hm1 : ((a : Int) + (k : Int)) % (n : Int) = (((a + k) % n : Nat) : Int) := by rw [Int.natCast_emod, Int.natCast_add]
        have HM1 := Lib.hid hm1
        have hin : (a + k) % n < n := Nat.mod_lt _ h0
        have hstep := roundC_take (l := l) (xs := xs) (a := a) hlt
        have hbn : ∀ b, nextC l xs ((roundC n a).take k) = some b → b < n := by
          intro b hb
          have h5 := List.mem_of_mem_take (nextC_mem l xs _ b hb).1
          exact roundC_lt h5
        obtain ⟨i, hi⟩ : ∃ i, (a + k) % n = i := ⟨_, rfl⟩
        rw [hi] at HM1 hin hstep
        clear hm1
        obtain ⟨best, hbe⟩ : ∃ best, best = nextC l xs ((roundC n a).take k) := ⟨_, rfl⟩
        rw [← hbe] at hstep hbn ⊢
        obtain ⟨ad, rfl⟩ := hr.some_ (by omega)
        obtain ⟨bd, rfl⟩ := hr2.some_ (by omega)
        have hB := below_tr hb1 hbr
        have hc1 := int_read (hr.below hB) (i := i) (by omega)
        have hc2 := (cl_read (hr2.below hB) i _ (getDc_of (by omega))).2
        have HHU : Hid (hungryC l xs i = decide (xs.getD i 0 < (l.getD i default).demand)) := rfl
        have HLB := Lib.hid (fun b (hb : b < n) W (hW : Below wr.heap.size wr W) => HL.out i b hin hb W ((hr.below hB).below hW) ((hr2.below hB).below hW))
        have HST := Lib.hid hstep
        have hin2 : (i : Int) < n := by omega
        have HBN := Lib.hid hbn
        clear hstep hbe hi hbn hr hr2
        generalize hxi : xs.getD i 0 = xi at hc1 HHU
        have HXI := Lib.hid hxi
        clear hxi
        generalize (l.getD i default).demand = di at *
        by_cases hh : xi < di
        · have hhd : decide (xi < di) = true := by simp [hh]
          have HHT : Hid (hungryC l xs i = true) := by show _ = _; rw [HHU.out]; exact hhd
          cases best with
          | none =>
            have hnew : Hid (nextC l xs ((roundC n a).take (k + 1)) = some i) := by
              show _ = _
              rw [HST.out]; unfold stepC; rw [if_pos HHT.out]
            simp only [bestI]
            go_wp2
            rw [HM1.out]
            obtain ⟨T, hT⟩ : ∃ T : Nat → Fact, ∀ t_, T t_ = ([Fact.eq (.slice (some ad) n c), Fact.eq (.int .i64 i), Fact.eq (.pointer (some (ad.add i))), Fact.eq (.int .i64 xi), Fact.eq (.slice (some bd) n d), Fact.eq (.int .i64 i), Fact.eq (.pointer (some (bd.add (i * 2)))), Fact.eq (.pointer (some ⟨(bd.add (i * 2)).block, (bd.add (i * 2)).off + 1, none⟩)), Fact.eq (.int .i64 di), Fact.eq (.bool true), Fact.eq (.bool true), Fact.eq (.int .i64 (-1)), Fact.eq (.bool true), Fact.eq (.bool true), Fact.eq (undef), Fact.eq (undef), Fact.eq (undef), Fact.eq (undef), Fact.eq (undef), Fact.eq (undef), Fact.eq (.bool true), Fact.eq (.bool true)] : List (Fact)).getD t_ Fact.any := ⟨_, fun _ => rfl⟩
            refine region_tab [(0, 47), (1, 48), (2, 49), (3, 50), (4, 51), (5, 52), (6, 53), (7, 54), (8, 55), (9, 56), (10, 57), (11, 58), (12, 59), (13, 60), (14, 61), (15, 62), (16, 63), (17, 64), (18, 65), (19, 66), (20, 67), (21, 68)] T (by kernel_rfl) (by kernel_rfl) (by kernel_rfl) (by kernel_rfl) (by kernel_rfl) ?_ ?_
            · skip
              refine stepsAll_cons (k := 0) ?_ ?_
              · intro fa fx fW hF fB hE K fK
                have ev1 : fa.tmps[1]?.getD undef = .slice (some ad) n c := hF.eo 1 (by kernel_rfl)
                refine wpOp_val rfl (wanted_none rfl) ?_ (fK (.slice (some ad) n c) fW (Below.refl _ _) (by rw [hT]; exact rfl))
                clear fK hE hF
                go_simp
              refine stepsAll_cons (k := 1) ?_ ?_
              · intro fa fx fW hF fB hE K fK
                have ev11 : fa.tmps[11]?.getD undef = .int .i64 i := hF.eo 11 (by kernel_rfl)
                refine wpOp_val rfl (wanted_none rfl) ?_ (fK (.int .i64 i) fW (Below.refl _ _) (by rw [hT]; exact rfl))
                clear fK hE hF
                go_simp
              refine stepsAll_cons (k := 2) ?_ ?_
              · intro fa fx fW hF fB hE K fK
                have q0 : fx 0 = .slice (some ad) n c := by have q := hE ⟨0, .data⟩ (by simp) rfl; rw [hT] at q; exact q
                have q1 : fx 1 = .int .i64 i := by have q := hE ⟨1, .data⟩ (by simp) rfl; rw [hT] at q; exact q
                have ev47 : fa.tmps[47]?.getD undef = .slice (some ad) n c := (hF.ev 0 47 (by kernel_rfl)).trans q0
                have ev48 : fa.tmps[48]?.getD undef = .int .i64 i := (hF.ev 1 48 (by kernel_rfl)).trans q1
                refine wpOp_val rfl (wanted_none rfl) ?_ (fK (.pointer (some (ad.add i))) fW (Below.refl _ _) (by rw [hT]; exact rfl))
                clear fK hE hF
                go_simp
              refine stepsAll_cons (k := 3) ?_ ?_
              · intro fa fx fW hF fB hE K fK
                have q2 : fx 2 = .pointer (some (ad.add i)) := by have q := hE ⟨2, .data⟩ (by simp) rfl; rw [hT] at q; exact q
                have ev49 : fa.tmps[49]?.getD undef = .pointer (some (ad.add i)) := (hF.ev 2 49 (by kernel_rfl)).trans q2
                have hq1 := cell_below fB hc1
                refine wpOp_val rfl (wanted_none rfl) ?_ (fK (.int .i64 xi) fW (Below.refl _ _) (by rw [hT]; exact rfl))
                clear fK hE hF
                go_simp
              refine stepsAll_cons (k := 4) ?_ ?_
              · intro fa fx fW hF fB hE K fK
                have ev0 : fa.tmps[0]?.getD undef = .slice (some bd) n d := hF.eo 0 (by kernel_rfl)
                refine wpOp_val rfl (wanted_none rfl) ?_ (fK (.slice (some bd) n d) fW (Below.refl _ _) (by rw [hT]; exact rfl))
                clear fK hE hF
                go_simp
              refine stepsAll_cons (k := 5) ?_ ?_
              · intro fa fx fW hF fB hE K fK
                have ev11 : fa.tmps[11]?.getD undef = .int .i64 i := hF.eo 11 (by kernel_rfl)
                refine wpOp_val rfl (wanted_none rfl) ?_ (fK (.int .i64 i) fW (Below.refl _ _) (by rw [hT]; exact rfl))
                clear fK hE hF
                go_simp
              refine stepsAll_cons (k := 6) ?_ ?_
              · intro fa fx fW hF fB hE K fK
                have q4 : fx 4 = .slice (some bd) n d := by have q := hE ⟨4, .data⟩ (by simp) rfl; rw [hT] at q; exact q
                have q5 : fx 5 = .int .i64 i := by have q := hE ⟨5, .data⟩ (by simp) rfl; rw [hT] at q; exact q
                have ev51 : fa.tmps[51]?.getD undef = .slice (some bd) n d := (hF.ev 4 51 (by kernel_rfl)).trans q4
                have ev52 : fa.tmps[52]?.getD undef = .int .i64 i := (hF.ev 5 52 (by kernel_rfl)).trans q5
                refine wpOp_val rfl (wanted_none rfl) ?_ (fK (.pointer (some (bd.add (i * 2)))) fW (Below.refl _ _) (by rw [hT]; exact rfl))
                clear fK hE hF
                go_simp
              refine stepsAll_cons (k := 7) ?_ ?_
              · intro fa fx fW hF fB hE K fK
                have q6 : fx 6 = .pointer (some (bd.add (i * 2))) := by have q := hE ⟨6, .data⟩ (by simp) rfl; rw [hT] at q; exact q
                have ev53 : fa.tmps[53]?.getD undef = .pointer (some (bd.add (i * 2))) := (hF.ev 6 53 (by kernel_rfl)).trans q6
                refine wpOp_val rfl (wanted_none rfl) ?_ (fK (.pointer (some ⟨(bd.add (i * 2)).block, (bd.add (i * 2)).off + 1, none⟩)) fW (Below.refl _ _) (by rw [hT]; exact rfl))
                clear fK hE hF
                go_simp
              refine stepsAll_cons (k := 8) ?_ ?_
              · intro fa fx fW hF fB hE K fK
                have q7 : fx 7 = .pointer (some ⟨(bd.add (i * 2)).block, (bd.add (i * 2)).off + 1, none⟩) := by have q := hE ⟨7, .data⟩ (by simp) rfl; rw [hT] at q; exact q
                have ev54 : fa.tmps[54]?.getD undef = .pointer (some ⟨(bd.add (i * 2)).block, (bd.add (i * 2)).off + 1, none⟩) := (hF.ev 7 54 (by kernel_rfl)).trans q7
                have hq2 := cell_below fB hc2
                refine wpOp_val rfl (wanted_none rfl) ?_ (fK (.int .i64 di) fW (Below.refl _ _) (by rw [hT]; exact rfl))
                clear fK hE hF
                go_simp
              refine stepsAll_cons (k := 9) ?_ ?_
              · intro fa fx fW hF fB hE K fK
                have q3 : fx 3 = .int .i64 xi := by have q := hE ⟨3, .data⟩ (by simp) rfl; rw [hT] at q; exact q
                have q8 : fx 8 = .int .i64 di := by have q := hE ⟨8, .data⟩ (by simp) rfl; rw [hT] at q; exact q
                have ev50 : fa.tmps[50]?.getD undef = .int .i64 xi := (hF.ev 3 50 (by kernel_rfl)).trans q3
                have ev55 : fa.tmps[55]?.getD undef = .int .i64 di := (hF.ev 8 55 (by kernel_rfl)).trans q8
                refine wpOp_val rfl (wanted_none rfl) ?_ (fK (.bool true) fW (Below.refl _ _) (by rw [hT]; exact rfl))
                clear fK hE hF
                go_simp
              refine stepsAll_cons (k := 10) ?_ ?_
              · intro fa fx fW hF fB hE K fK
                have q9 : fx 9 = .bool true := by have q := hE ⟨9, .data⟩ (by simp) rfl; rw [hT] at q; exact q
                have ev56 : fa.tmps[56]?.getD undef = .bool true := (hF.ev 9 56 (by kernel_rfl)).trans q9
                refine wpOp_val rfl (wanted_none rfl) ?_ (fK (.bool true) fW (Below.refl _ _) (by rw [hT]; exact rfl))
                clear fK hE hF
                go_simp
              refine stepsAll_cons (k := 11) ?_ ?_
              · intro fa fx fW hF fB hE K fK
                have q10 : fx 10 = .bool true := by have q := hE ⟨10, .guard⟩ (by simp) rfl; rw [hT] at q; exact q
                have ev9 : fa.tmps[9]?.getD undef = .int .i64 (-1) := hF.eo 9 (by kernel_rfl)
                refine wpOp_val rfl (wanted_yes rfl (hF.yes 10 57 (by kernel_rfl) true q10)) ?_ (fK (.int .i64 (-1)) fW (Below.refl _ _) (by rw [hT]; exact rfl))
                clear fK hE hF
                go_simp
              refine stepsAll_cons (k := 12) ?_ ?_
              · intro fa fx fW hF fB hE K fK
                have q10 : fx 10 = .bool true := by have q := hE ⟨10, .guard⟩ (by simp) rfl; rw [hT] at q; exact q
                have q11 : fx 11 = .int .i64 (-1) := by have q := hE ⟨11, .data⟩ (by simp) rfl; rw [hT] at q; exact q
                have ev58 : fa.tmps[58]?.getD undef = .int .i64 (-1) := (hF.ev 11 58 (by kernel_rfl)).trans q11
                refine wpOp_val rfl (wanted_yes rfl (hF.yes 10 57 (by kernel_rfl) true q10)) ?_ (fK (.bool true) fW (Below.refl _ _) (by rw [hT]; exact rfl))
                clear fK hE hF
                go_simp
              refine stepsAll_cons (k := 13) ?_ ?_
              · intro fa fx fW hF fB hE K fK
                have q10 : fx 10 = .bool true := by have q := hE ⟨10, .chain⟩ (by simp) rfl; rw [hT] at q; exact q
                have q12 : fx 12 = .bool true := by have q := hE ⟨12, .data⟩ (by simp) rfl; rw [hT] at q; exact q
                have ev59 : fa.tmps[59]?.getD undef = .bool true := (hF.ev 12 59 (by kernel_rfl)).trans q12
                refine wpOp_val rfl (wanted_yes rfl (hF.yes 10 57 (by kernel_rfl) true q10)) ?_ (fK (.bool true) fW (Below.refl _ _) (by rw [hT]; exact rfl))
                clear fK hE hF
                go_simp
              refine stepsAll_cons (k := 14) ?_ ?_
              · intro fa fx fW hF fB hE K fK
                have q13 : fx 13 = .bool true := by have q := hE ⟨13, .guard⟩ (by simp) rfl; rw [hT] at q; exact q
                have ev0 : fa.tmps[0]?.getD undef = .slice (some bd) n d := hF.eo 0 (by kernel_rfl)
                exact wpOp_skip rfl (by simp [Region.wanted, hF.yes 13 60 (by kernel_rfl) true q13]) (fK undef fW (Below.refl _ _) (by rw [hT]; exact rfl))
              refine stepsAll_cons (k := 15) ?_ ?_
              · intro fa fx fW hF fB hE K fK
                have q13 : fx 13 = .bool true := by have q := hE ⟨13, .guard⟩ (by simp) rfl; rw [hT] at q; exact q
                have ev1 : fa.tmps[1]?.getD undef = .slice (some ad) n c := hF.eo 1 (by kernel_rfl)
                exact wpOp_skip rfl (by simp [Region.wanted, hF.yes 13 60 (by kernel_rfl) true q13]) (fK undef fW (Below.refl _ _) (by rw [hT]; exact rfl))
              refine stepsAll_cons (k := 16) ?_ ?_
              · intro fa fx fW hF fB hE K fK
                have q13 : fx 13 = .bool true := by have q := hE ⟨13, .guard⟩ (by simp) rfl; rw [hT] at q; exact q
                have ev11 : fa.tmps[11]?.getD undef = .int .i64 i := hF.eo 11 (by kernel_rfl)
                exact wpOp_skip rfl (by simp [Region.wanted, hF.yes 13 60 (by kernel_rfl) true q13]) (fK undef fW (Below.refl _ _) (by rw [hT]; exact rfl))
              refine stepsAll_cons (k := 17) ?_ ?_
              · intro fa fx fW hF fB hE K fK
                have q13 : fx 13 = .bool true := by have q := hE ⟨13, .guard⟩ (by simp) rfl; rw [hT] at q; exact q
                have ev9 : fa.tmps[9]?.getD undef = .int .i64 (-1) := hF.eo 9 (by kernel_rfl)
                exact wpOp_skip rfl (by simp [Region.wanted, hF.yes 13 60 (by kernel_rfl) true q13]) (fK undef fW (Below.refl _ _) (by rw [hT]; exact rfl))
              refine stepsAll_cons (k := 18) ?_ ?_
              · intro fa fx fW hF fB hE K fK
                have q13 : fx 13 = .bool true := by have q := hE ⟨13, .chain⟩ (by simp) rfl; rw [hT] at q; exact q
                have q14 : fx 14 = undef := by have q := hE ⟨14, .data⟩ (by simp) rfl; rw [hT] at q; exact q
                have q15 : fx 15 = undef := by have q := hE ⟨15, .data⟩ (by simp) rfl; rw [hT] at q; exact q
                have q16 : fx 16 = undef := by have q := hE ⟨16, .data⟩ (by simp) rfl; rw [hT] at q; exact q
                have q17 : fx 17 = undef := by have q := hE ⟨17, .data⟩ (by simp) rfl; rw [hT] at q; exact q
                have ev61 : fa.tmps[61]?.getD undef = undef := (hF.ev 14 61 (by kernel_rfl)).trans q14
                have ev62 : fa.tmps[62]?.getD undef = undef := (hF.ev 15 62 (by kernel_rfl)).trans q15
                have ev63 : fa.tmps[63]?.getD undef = undef := (hF.ev 16 63 (by kernel_rfl)).trans q16
                have ev64 : fa.tmps[64]?.getD undef = undef := (hF.ev 17 64 (by kernel_rfl)).trans q17
                exact wpOp_skip rfl (by simp [Region.wanted, hF.yes 13 60 (by kernel_rfl) true q13]) (fK undef fW (Below.refl _ _) (by rw [hT]; exact rfl))
              refine stepsAll_cons (k := 19) ?_ ?_
              · intro fa fx fW hF fB hE K fK
                have q13 : fx 13 = .bool true := by have q := hE ⟨13, .guard⟩ (by simp) rfl; rw [hT] at q; exact q
                have q18 : fx 18 = undef := by have q := hE ⟨18, .data⟩ (by simp) rfl; rw [hT] at q; exact q
                have ev65 : fa.tmps[65]?.getD undef = undef := (hF.ev 18 65 (by kernel_rfl)).trans q18
                exact wpOp_skip rfl (by simp [Region.wanted, hF.yes 13 60 (by kernel_rfl) true q13]) (fK undef fW (Below.refl _ _) (by rw [hT]; exact rfl))
              refine stepsAll_cons (k := 20) ?_ ?_
              · intro fa fx fW hF fB hE K fK
                have q10 : fx 10 = .bool true := by have q := hE ⟨10, .guard⟩ (by simp) rfl; rw [hT] at q; exact q
                have q13 : fx 13 = .bool true := by have q := hE ⟨13, .data⟩ (by simp) rfl; rw [hT] at q; exact q
                have q19 : fx 19 = undef := by have q := hE ⟨19, .data⟩ (by simp) rfl; rw [hT] at q; exact q
                have ev60 : fa.tmps[60]?.getD undef = .bool true := (hF.ev 13 60 (by kernel_rfl)).trans q13
                have ev66 : fa.tmps[66]?.getD undef = undef := (hF.ev 19 66 (by kernel_rfl)).trans q19
                refine wpOp_val rfl (wanted_yes rfl (hF.yes 10 57 (by kernel_rfl) true q10)) ?_ (fK (.bool true) fW (Below.refl _ _) (by rw [hT]; exact rfl))
                clear fK hE hF
                go_simp
              refine stepsAll_cons (k := 21) ?_ ?_
              · intro fa fx fW hF fB hE K fK
                have q10 : fx 10 = .bool true := by have q := hE ⟨10, .data⟩ (by simp) rfl; rw [hT] at q; exact q
                have q20 : fx 20 = .bool true := by have q := hE ⟨20, .data⟩ (by simp) rfl; rw [hT] at q; exact q
                have ev57 : fa.tmps[57]?.getD undef = .bool true := (hF.ev 10 57 (by kernel_rfl)).trans q10
                have ev67 : fa.tmps[67]?.getD undef = .bool true := (hF.ev 20 67 (by kernel_rfl)).trans q20
                refine wpOp_val rfl (wanted_none rfl) ?_ (fK (.bool true) fW (Below.refl _ _) (by rw [hT]; exact rfl))
                clear fK hE hF
                go_simp
              exact stepsAll_nil
            intro fa fx fW hF fB hx
            have q21 : fx 21 = .bool true := by have q := hx 21 (by decide); rw [hT] at q; exact q
            have ev68 : fa.tmps[68]?.getD undef = .bool true := (hF.ev 21 68 (by kernel_rfl)).trans q21
            rw [hF.eq]
            clear hF hx
            simp only [putAll, Act.put, List.setIfInBounds_toArray, List.set_cons_zero, List.set_cons_succ, q21]
            go_wp2
            go_roundw
            case rel => exact ⟨k + 1, by omega, by go_num, by rw [hnew.out], below_tr hbr fB⟩
            case measure => simp [intOf]; omega
          | some b =>
            have hbn := HBN.out b rfl
            have HC := Lib.hid (fun W hW => HLB.out b hbn W hW)
            have HLS : Hid (lessC l xs i b = decide (cmpV (xs.getD i 0 * (l.getD b default).weight) (xs.getD b 0 * (l.getD i default).weight) < 0)) := (cmp_less _ _).symm
            have hnew : Hid (nextC l xs ((roundC n a).take (k + 1)) = if lessC l xs i b then some i else some b) := by
              show _ = _
              rw [HST.out]; unfold stepC; rw [if_pos HHT.out]
            generalize cmpV (xs.getD i 0 * (l.getD b default).weight) (xs.getD b 0 * (l.getD i default).weight) = r at HC HLS
            rw [HLS.out] at hnew
            clear HLB HL
            simp only [bestI]
            by_cases hr0 : r < 0
            all_goals
              go_wp2
              rw [HM1.out]
              obtain ⟨T, hT⟩ : ∃ T : Nat → Fact, ∀ t_, T t_ = ([Fact.eq (.slice (some ad) n c), Fact.eq (.int .i64 i), Fact.eq (.pointer (some (ad.add i))), Fact.eq (.int .i64 xi), Fact.eq (.slice (some bd) n d), Fact.eq (.int .i64 i), Fact.eq (.pointer (some (bd.add (i * 2)))), Fact.eq (.pointer (some ⟨(bd.add (i * 2)).block, (bd.add (i * 2)).off + 1, none⟩)), Fact.eq (.int .i64 di), Fact.eq (.bool true), Fact.eq (.bool true), Fact.eq (.int .i64 b), Fact.eq (.bool false), Fact.eq (.bool false), Fact.eq (.slice (some bd) n d), Fact.eq (.slice (some ad) n c), Fact.eq (.int .i64 i), Fact.eq (.int .i64 b), Fact.eq (.int .i64 r), Fact.eq (.bool (decide (r < 0))), Fact.eq (.bool (decide (r < 0))), Fact.eq (.bool (decide (r < 0)))] : List (Fact)).getD t_ Fact.any := ⟨_, fun _ => rfl⟩
              refine region_tab [(0, 47), (1, 48), (2, 49), (3, 50), (4, 51), (5, 52), (6, 53), (7, 54), (8, 55), (9, 56), (10, 57), (11, 58), (12, 59), (13, 60), (14, 61), (15, 62), (16, 63), (17, 64), (18, 65), (19, 66), (20, 67), (21, 68)] T (by kernel_rfl) (by kernel_rfl) (by kernel_rfl) (by kernel_rfl) (by kernel_rfl) ?_ ?_
              · skip
                refine stepsAll_cons (k := 0) ?_ ?_
                · intro fa fx fW hF fB hE K fK
                  have ev1 : fa.tmps[1]?.getD undef = .slice (some ad) n c := hF.eo 1 (by kernel_rfl)
                  refine wpOp_val rfl (wanted_none rfl) ?_ (fK (.slice (some ad) n c) fW (Below.refl _ _) (by rw [hT]; exact rfl))
                  clear fK hE hF
                  go_simp
                refine stepsAll_cons (k := 1) ?_ ?_
                · intro fa fx fW hF fB hE K fK
                  have ev11 : fa.tmps[11]?.getD undef = .int .i64 i := hF.eo 11 (by kernel_rfl)
                  refine wpOp_val rfl (wanted_none rfl) ?_ (fK (.int .i64 i) fW (Below.refl _ _) (by rw [hT]; exact rfl))
                  clear fK hE hF
                  go_simp
                refine stepsAll_cons (k := 2) ?_ ?_
                · intro fa fx fW hF fB hE K fK
                  have q0 : fx 0 = .slice (some ad) n c := by have q := hE ⟨0, .data⟩ (by simp) rfl; rw [hT] at q; exact q
                  have q1 : fx 1 = .int .i64 i := by have q := hE ⟨1, .data⟩ (by simp) rfl; rw [hT] at q; exact q
                  have ev47 : fa.tmps[47]?.getD undef = .slice (some ad) n c := (hF.ev 0 47 (by kernel_rfl)).trans q0
                  have ev48 : fa.tmps[48]?.getD undef = .int .i64 i := (hF.ev 1 48 (by kernel_rfl)).trans q1
                  refine wpOp_val rfl (wanted_none rfl) ?_ (fK (.pointer (some (ad.add i))) fW (Below.refl _ _) (by rw [hT]; exact rfl))
                  clear fK hE hF
                  go_simp
                refine stepsAll_cons (k := 3) ?_ ?_
                · intro fa fx fW hF fB hE K fK
                  have q2 : fx 2 = .pointer (some (ad.add i)) := by have q := hE ⟨2, .data⟩ (by simp) rfl; rw [hT] at q; exact q
                  have ev49 : fa.tmps[49]?.getD undef = .pointer (some (ad.add i)) := (hF.ev 2 49 (by kernel_rfl)).trans q2
                  have hq1 := cell_below fB hc1
                  refine wpOp_val rfl (wanted_none rfl) ?_ (fK (.int .i64 xi) fW (Below.refl _ _) (by rw [hT]; exact rfl))
                  clear fK hE hF
                  go_simp
                refine stepsAll_cons (k := 4) ?_ ?_
                · intro fa fx fW hF fB hE K fK
                  have ev0 : fa.tmps[0]?.getD undef = .slice (some bd) n d := hF.eo 0 (by kernel_rfl)
                  refine wpOp_val rfl (wanted_none rfl) ?_ (fK (.slice (some bd) n d) fW (Below.refl _ _) (by rw [hT]; exact rfl))
                  clear fK hE hF
                  go_simp
                refine stepsAll_cons (k := 5) ?_ ?_
                · intro fa fx fW hF fB hE K fK
                  have ev11 : fa.tmps[11]?.getD undef = .int .i64 i := hF.eo 11 (by kernel_rfl)
                  refine wpOp_val rfl (wanted_none rfl) ?_ (fK (.int .i64 i) fW (Below.refl _ _) (by rw [hT]; exact rfl))
                  clear fK hE hF
                  go_simp
                refine stepsAll_cons (k := 6) ?_ ?_
                · intro fa fx fW hF fB hE K fK
                  have q4 : fx 4 = .slice (some bd) n d := by have q := hE ⟨4, .data⟩ (by simp) rfl; rw [hT] at q; exact q
                  have q5 : fx 5 = .int .i64 i := by have q := hE ⟨5, .data⟩ (by simp) rfl; rw [hT] at q; exact q
                  have ev51 : fa.tmps[51]?.getD undef = .slice (some bd) n d := (hF.ev 4 51 (by kernel_rfl)).trans q4
                  have ev52 : fa.tmps[52]?.getD undef = .int .i64 i := (hF.ev 5 52 (by kernel_rfl)).trans q5
                  refine wpOp_val rfl (wanted_none rfl) ?_ (fK (.pointer (some (bd.add (i * 2)))) fW (Below.refl _ _) (by rw [hT]; exact rfl))
                  clear fK hE hF
                  go_simp
                refine stepsAll_cons (k := 7) ?_ ?_
                · intro fa fx fW hF fB hE K fK
                  have q6 : fx 6 = .pointer (some (bd.add (i * 2))) := by have q := hE ⟨6, .data⟩ (by simp) rfl; rw [hT] at q; exact q
                  have ev53 : fa.tmps[53]?.getD undef = .pointer (some (bd.add (i * 2))) := (hF.ev 6 53 (by kernel_rfl)).trans q6
                  refine wpOp_val rfl (wanted_none rfl) ?_ (fK (.pointer (some ⟨(bd.add (i * 2)).block, (bd.add (i * 2)).off + 1, none⟩)) fW (Below.refl _ _) (by rw [hT]; exact rfl))
                  clear fK hE hF
                  go_simp
                refine stepsAll_cons (k := 8) ?_ ?_
                · intro fa fx fW hF fB hE K fK
                  have q7 : fx 7 = .pointer (some ⟨(bd.add (i * 2)).block, (bd.add (i * 2)).off + 1, none⟩) := by have q := hE ⟨7, .data⟩ (by simp) rfl; rw [hT] at q; exact q
                  have ev54 : fa.tmps[54]?.getD undef = .pointer (some ⟨(bd.add (i * 2)).block, (bd.add (i * 2)).off + 1, none⟩) := (hF.ev 7 54 (by kernel_rfl)).trans q7
                  have hq2 := cell_below fB hc2
                  refine wpOp_val rfl (wanted_none rfl) ?_ (fK (.int .i64 di) fW (Below.refl _ _) (by rw [hT]; exact rfl))
                  clear fK hE hF
                  go_simp
                refine stepsAll_cons (k := 9) ?_ ?_
                · intro fa fx fW hF fB hE K fK
                  have q3 : fx 3 = .int .i64 xi := by have q := hE ⟨3, .data⟩ (by simp) rfl; rw [hT] at q; exact q
                  have q8 : fx 8 = .int .i64 di := by have q := hE ⟨8, .data⟩ (by simp) rfl; rw [hT] at q; exact q
                  have ev50 : fa.tmps[50]?.getD undef = .int .i64 xi := (hF.ev 3 50 (by kernel_rfl)).trans q3
                  have ev55 : fa.tmps[55]?.getD undef = .int .i64 di := (hF.ev 8 55 (by kernel_rfl)).trans q8
                  refine wpOp_val rfl (wanted_none rfl) ?_ (fK (.bool true) fW (Below.refl _ _) (by rw [hT]; exact rfl))
                  clear fK hE hF
                  go_simp
                refine stepsAll_cons (k := 10) ?_ ?_
                · intro fa fx fW hF fB hE K fK
                  have q9 : fx 9 = .bool true := by have q := hE ⟨9, .data⟩ (by simp) rfl; rw [hT] at q; exact q
                  have ev56 : fa.tmps[56]?.getD undef = .bool true := (hF.ev 9 56 (by kernel_rfl)).trans q9
                  refine wpOp_val rfl (wanted_none rfl) ?_ (fK (.bool true) fW (Below.refl _ _) (by rw [hT]; exact rfl))
                  clear fK hE hF
                  go_simp
                refine stepsAll_cons (k := 11) ?_ ?_
                · intro fa fx fW hF fB hE K fK
                  have q10 : fx 10 = .bool true := by have q := hE ⟨10, .guard⟩ (by simp) rfl; rw [hT] at q; exact q
                  have ev9 : fa.tmps[9]?.getD undef = .int .i64 b := hF.eo 9 (by kernel_rfl)
                  refine wpOp_val rfl (wanted_yes rfl (hF.yes 10 57 (by kernel_rfl) true q10)) ?_ (fK (.int .i64 b) fW (Below.refl _ _) (by rw [hT]; exact rfl))
                  clear fK hE hF
                  go_simp
                refine stepsAll_cons (k := 12) ?_ ?_
                · intro fa fx fW hF fB hE K fK
                  have q10 : fx 10 = .bool true := by have q := hE ⟨10, .guard⟩ (by simp) rfl; rw [hT] at q; exact q
                  have q11 : fx 11 = .int .i64 b := by have q := hE ⟨11, .data⟩ (by simp) rfl; rw [hT] at q; exact q
                  have ev58 : fa.tmps[58]?.getD undef = .int .i64 b := (hF.ev 11 58 (by kernel_rfl)).trans q11
                  refine wpOp_val rfl (wanted_yes rfl (hF.yes 10 57 (by kernel_rfl) true q10)) ?_ (fK (.bool false) fW (Below.refl _ _) (by rw [hT]; exact rfl))
                  clear fK hE hF
                  go_simp
                refine stepsAll_cons (k := 13) ?_ ?_
                · intro fa fx fW hF fB hE K fK
                  have q10 : fx 10 = .bool true := by have q := hE ⟨10, .chain⟩ (by simp) rfl; rw [hT] at q; exact q
                  have q12 : fx 12 = .bool false := by have q := hE ⟨12, .data⟩ (by simp) rfl; rw [hT] at q; exact q
                  have ev59 : fa.tmps[59]?.getD undef = .bool false := (hF.ev 12 59 (by kernel_rfl)).trans q12
                  refine wpOp_val rfl (wanted_yes rfl (hF.yes 10 57 (by kernel_rfl) true q10)) ?_ (fK (.bool false) fW (Below.refl _ _) (by rw [hT]; exact rfl))
                  clear fK hE hF
                  go_simp
                refine stepsAll_cons (k := 14) ?_ ?_
                · intro fa fx fW hF fB hE K fK
                  have q13 : fx 13 = .bool false := by have q := hE ⟨13, .guard⟩ (by simp) rfl; rw [hT] at q; exact q
                  have ev0 : fa.tmps[0]?.getD undef = .slice (some bd) n d := hF.eo 0 (by kernel_rfl)
                  refine wpOp_val rfl (wanted_not rfl (hF.yes 13 60 (by kernel_rfl) false q13)) ?_ (fK (.slice (some bd) n d) fW (Below.refl _ _) (by rw [hT]; exact rfl))
                  clear fK hE hF
                  go_simp
                refine stepsAll_cons (k := 15) ?_ ?_
                · intro fa fx fW hF fB hE K fK
                  have q13 : fx 13 = .bool false := by have q := hE ⟨13, .guard⟩ (by simp) rfl; rw [hT] at q; exact q
                  have ev1 : fa.tmps[1]?.getD undef = .slice (some ad) n c := hF.eo 1 (by kernel_rfl)
                  refine wpOp_val rfl (wanted_not rfl (hF.yes 13 60 (by kernel_rfl) false q13)) ?_ (fK (.slice (some ad) n c) fW (Below.refl _ _) (by rw [hT]; exact rfl))
                  clear fK hE hF
                  go_simp
                refine stepsAll_cons (k := 16) ?_ ?_
                · intro fa fx fW hF fB hE K fK
                  have q13 : fx 13 = .bool false := by have q := hE ⟨13, .guard⟩ (by simp) rfl; rw [hT] at q; exact q
                  have ev11 : fa.tmps[11]?.getD undef = .int .i64 i := hF.eo 11 (by kernel_rfl)
                  refine wpOp_val rfl (wanted_not rfl (hF.yes 13 60 (by kernel_rfl) false q13)) ?_ (fK (.int .i64 i) fW (Below.refl _ _) (by rw [hT]; exact rfl))
                  clear fK hE hF
                  go_simp
                refine stepsAll_cons (k := 17) ?_ ?_
                · intro fa fx fW hF fB hE K fK
                  have q13 : fx 13 = .bool false := by have q := hE ⟨13, .guard⟩ (by simp) rfl; rw [hT] at q; exact q
                  have ev9 : fa.tmps[9]?.getD undef = .int .i64 b := hF.eo 9 (by kernel_rfl)
                  refine wpOp_val rfl (wanted_not rfl (hF.yes 13 60 (by kernel_rfl) false q13)) ?_ (fK (.int .i64 b) fW (Below.refl _ _) (by rw [hT]; exact rfl))
                  clear fK hE hF
                  go_simp
                refine stepsAll_cons (k := 18) ?_ ?_
                · intro fa fx fW hF fB hE K fK
                  have q13 : fx 13 = .bool false := by have q := hE ⟨13, .chain⟩ (by simp) rfl; rw [hT] at q; exact q
                  have q14 : fx 14 = .slice (some bd) n d := by have q := hE ⟨14, .data⟩ (by simp) rfl; rw [hT] at q; exact q
                  have q15 : fx 15 = .slice (some ad) n c := by have q := hE ⟨15, .data⟩ (by simp) rfl; rw [hT] at q; exact q
                  have q16 : fx 16 = .int .i64 i := by have q := hE ⟨16, .data⟩ (by simp) rfl; rw [hT] at q; exact q
                  have q17 : fx 17 = .int .i64 b := by have q := hE ⟨17, .data⟩ (by simp) rfl; rw [hT] at q; exact q
                  have ev61 : fa.tmps[61]?.getD undef = .slice (some bd) n d := (hF.ev 14 61 (by kernel_rfl)).trans q14
                  have ev62 : fa.tmps[62]?.getD undef = .slice (some ad) n c := (hF.ev 15 62 (by kernel_rfl)).trans q15
                  have ev63 : fa.tmps[63]?.getD undef = .int .i64 i := (hF.ev 16 63 (by kernel_rfl)).trans q16
                  have ev64 : fa.tmps[64]?.getD undef = .int .i64 b := (hF.ev 17 64 (by kernel_rfl)).trans q17
                  refine wpOp_call rfl (wanted_not rfl (hF.yes 13 60 (by kernel_rfl) false q13)) (by go_simp; exact ⟨rfl, rfl⟩) ?_
                  refine (HC.out fW fB).mono ?_
                  rintro e w' ⟨rfl, hbb⟩
                  exact ⟨_, rfl, fK (.int .i64 r) (w') (hbb) (by rw [hT]; exact rfl)⟩
                refine stepsAll_cons (k := 19) ?_ ?_
                · intro fa fx fW hF fB hE K fK
                  have q13 : fx 13 = .bool false := by have q := hE ⟨13, .guard⟩ (by simp) rfl; rw [hT] at q; exact q
                  have q18 : fx 18 = .int .i64 r := by have q := hE ⟨18, .data⟩ (by simp) rfl; rw [hT] at q; exact q
                  have ev65 : fa.tmps[65]?.getD undef = .int .i64 r := (hF.ev 18 65 (by kernel_rfl)).trans q18
                  refine wpOp_val rfl (wanted_not rfl (hF.yes 13 60 (by kernel_rfl) false q13)) ?_ (fK (.bool (decide (r < 0))) fW (Below.refl _ _) (by rw [hT]; exact rfl))
                  clear fK hE hF
                  go_simp
                refine stepsAll_cons (k := 20) ?_ ?_
                · intro fa fx fW hF fB hE K fK
                  have q10 : fx 10 = .bool true := by have q := hE ⟨10, .guard⟩ (by simp) rfl; rw [hT] at q; exact q
                  have q13 : fx 13 = .bool false := by have q := hE ⟨13, .data⟩ (by simp) rfl; rw [hT] at q; exact q
                  have q19 : fx 19 = .bool (decide (r < 0)) := by have q := hE ⟨19, .data⟩ (by simp) rfl; rw [hT] at q; exact q
                  have ev60 : fa.tmps[60]?.getD undef = .bool false := (hF.ev 13 60 (by kernel_rfl)).trans q13
                  have ev66 : fa.tmps[66]?.getD undef = .bool (decide (r < 0)) := (hF.ev 19 66 (by kernel_rfl)).trans q19
                  refine wpOp_val rfl (wanted_yes rfl (hF.yes 10 57 (by kernel_rfl) true q10)) ?_ (fK (.bool (decide (r < 0))) fW (Below.refl _ _) (by rw [hT]; exact rfl))
                  clear fK hE hF
                  go_simp
                refine stepsAll_cons (k := 21) ?_ ?_
                · intro fa fx fW hF fB hE K fK
                  have q10 : fx 10 = .bool true := by have q := hE ⟨10, .data⟩ (by simp) rfl; rw [hT] at q; exact q
                  have q20 : fx 20 = .bool (decide (r < 0)) := by have q := hE ⟨20, .data⟩ (by simp) rfl; rw [hT] at q; exact q
                  have ev57 : fa.tmps[57]?.getD undef = .bool true := (hF.ev 10 57 (by kernel_rfl)).trans q10
                  have ev67 : fa.tmps[67]?.getD undef = .bool (decide (r < 0)) := (hF.ev 20 67 (by kernel_rfl)).trans q20
                  refine wpOp_val rfl (wanted_none rfl) ?_ (fK (.bool (decide (r < 0))) fW (Below.refl _ _) (by rw [hT]; exact rfl))
                  clear fK hE hF
                  go_simp
                exact stepsAll_nil
              intro fa fx fW hF fB hx
              have q21 : fx 21 = .bool (decide (r < 0)) := by have q := hx 21 (by decide); rw [hT] at q; exact q
              have ev68 : fa.tmps[68]?.getD undef = .bool (decide (r < 0)) := (hF.ev 21 68 (by kernel_rfl)).trans q21
              rw [hF.eq]
              clear hF hx
              simp only [putAll, Act.put, List.setIfInBounds_toArray, List.set_cons_zero, List.set_cons_succ, q21]
              go_wp2
              go_roundw
              case rel => exact ⟨k + 1, by omega, by go_num, by first | rw [hnew.out, if_pos (by simpa using hr0)] | (rw [hnew.out, if_pos (by simpa using hr0)]; rfl) | rw [hnew.out, if_neg (by simpa using hr0)] | (rw [hnew.out, if_neg (by simpa using hr0)]; rfl), below_tr hbr fB⟩
              case measure => simp [intOf]; omega
        · have hhd : decide (xi < di) = false := by simp [hh]
          have hnew : Hid (nextC l xs ((roundC n a).take (k + 1)) = best) := by
            show _ = _
            rw [HST.out]
            unfold stepC
            rw [show hungryC l xs i = false by rw [HHU.out]; exact hhd]
            rfl
          go_wp2
          rw [HM1.out]
          obtain ⟨T, hT⟩ : ∃ T : Nat → Fact, ∀ t_, T t_ = ([Fact.eq (.slice (some ad) n c), Fact.eq (.int .i64 i), Fact.eq (.pointer (some (ad.add i))), Fact.eq (.int .i64 xi), Fact.eq (.slice (some bd) n d), Fact.eq (.int .i64 i), Fact.eq (.pointer (some (bd.add (i * 2)))), Fact.eq (.pointer (some ⟨(bd.add (i * 2)).block, (bd.add (i * 2)).off + 1, none⟩)), Fact.eq (.int .i64 di), Fact.eq (.bool false), Fact.eq (.bool false), Fact.eq (undef), Fact.eq (undef), Fact.eq (undef), Fact.eq (undef), Fact.eq (undef), Fact.eq (undef), Fact.eq (undef), Fact.eq (undef), Fact.eq (undef), Fact.eq (undef), Fact.eq (.bool false)] : List (Fact)).getD t_ Fact.any := ⟨_, fun _ => rfl⟩
          refine region_tab [(0, 47), (1, 48), (2, 49), (3, 50), (4, 51), (5, 52), (6, 53), (7, 54), (8, 55), (9, 56), (10, 57), (11, 58), (12, 59), (13, 60), (14, 61), (15, 62), (16, 63), (17, 64), (18, 65), (19, 66), (20, 67), (21, 68)] T (by kernel_rfl) (by kernel_rfl) (by kernel_rfl) (by kernel_rfl) (by kernel_rfl) ?_ ?_
          · skip
            refine stepsAll_cons (k := 0) ?_ ?_
            · intro fa fx fW hF fB hE K fK
              have ev1 : fa.tmps[1]?.getD undef = .slice (some ad) n c := hF.eo 1 (by kernel_rfl)
              refine wpOp_val rfl (wanted_none rfl) ?_ (fK (.slice (some ad) n c) fW (Below.refl _ _) (by rw [hT]; exact rfl))
              clear fK hE hF
              go_simp
            refine stepsAll_cons (k := 1) ?_ ?_
            · intro fa fx fW hF fB hE K fK
              have ev11 : fa.tmps[11]?.getD undef = .int .i64 i := hF.eo 11 (by kernel_rfl)
              refine wpOp_val rfl (wanted_none rfl) ?_ (fK (.int .i64 i) fW (Below.refl _ _) (by rw [hT]; exact rfl))
              clear fK hE hF
              go_simp
            refine stepsAll_cons (k := 2) ?_ ?_
            · intro fa fx fW hF fB hE K fK
              have q0 : fx 0 = .slice (some ad) n c := by have q := hE ⟨0, .data⟩ (by simp) rfl; rw [hT] at q; exact q
              have q1 : fx 1 = .int .i64 i := by have q := hE ⟨1, .data⟩ (by simp) rfl; rw [hT] at q; exact q
              have ev47 : fa.tmps[47]?.getD undef = .slice (some ad) n c := (hF.ev 0 47 (by kernel_rfl)).trans q0
              have ev48 : fa.tmps[48]?.getD undef = .int .i64 i := (hF.ev 1 48 (by kernel_rfl)).trans q1
              refine wpOp_val rfl (wanted_none rfl) ?_ (fK (.pointer (some (ad.add i))) fW (Below.refl _ _) (by rw [hT]; exact rfl))
              clear fK hE hF
              go_simp
            refine stepsAll_cons (k := 3) ?_ ?_
            · intro fa fx fW hF fB hE K fK
              have q2 : fx 2 = .pointer (some (ad.add i)) := by have q := hE ⟨2, .data⟩ (by simp) rfl; rw [hT] at q; exact q
              have ev49 : fa.tmps[49]?.getD undef = .pointer (some (ad.add i)) := (hF.ev 2 49 (by kernel_rfl)).trans q2
              have hq1 := cell_below fB hc1
              refine wpOp_val rfl (wanted_none rfl) ?_ (fK (.int .i64 xi) fW (Below.refl _ _) (by rw [hT]; exact rfl))
              clear fK hE hF
              go_simp
            refine stepsAll_cons (k := 4) ?_ ?_
            · intro fa fx fW hF fB hE K fK
              have ev0 : fa.tmps[0]?.getD undef = .slice (some bd) n d := hF.eo 0 (by kernel_rfl)
              refine wpOp_val rfl (wanted_none rfl) ?_ (fK (.slice (some bd) n d) fW (Below.refl _ _) (by rw [hT]; exact rfl))
              clear fK hE hF
              go_simp
            refine stepsAll_cons (k := 5) ?_ ?_
            · intro fa fx fW hF fB hE K fK
              have ev11 : fa.tmps[11]?.getD undef = .int .i64 i := hF.eo 11 (by kernel_rfl)
              refine wpOp_val rfl (wanted_none rfl) ?_ (fK (.int .i64 i) fW (Below.refl _ _) (by rw [hT]; exact rfl))
              clear fK hE hF
              go_simp
            refine stepsAll_cons (k := 6) ?_ ?_
            · intro fa fx fW hF fB hE K fK
              have q4 : fx 4 = .slice (some bd) n d := by have q := hE ⟨4, .data⟩ (by simp) rfl; rw [hT] at q; exact q
              have q5 : fx 5 = .int .i64 i := by have q := hE ⟨5, .data⟩ (by simp) rfl; rw [hT] at q; exact q
              have ev51 : fa.tmps[51]?.getD undef = .slice (some bd) n d := (hF.ev 4 51 (by kernel_rfl)).trans q4
              have ev52 : fa.tmps[52]?.getD undef = .int .i64 i := (hF.ev 5 52 (by kernel_rfl)).trans q5
              refine wpOp_val rfl (wanted_none rfl) ?_ (fK (.pointer (some (bd.add (i * 2)))) fW (Below.refl _ _) (by rw [hT]; exact rfl))
              clear fK hE hF
              go_simp
            refine stepsAll_cons (k := 7) ?_ ?_
            · intro fa fx fW hF fB hE K fK
              have q6 : fx 6 = .pointer (some (bd.add (i * 2))) := by have q := hE ⟨6, .data⟩ (by simp) rfl; rw [hT] at q; exact q
              have ev53 : fa.tmps[53]?.getD undef = .pointer (some (bd.add (i * 2))) := (hF.ev 6 53 (by kernel_rfl)).trans q6
              refine wpOp_val rfl (wanted_none rfl) ?_ (fK (.pointer (some ⟨(bd.add (i * 2)).block, (bd.add (i * 2)).off + 1, none⟩)) fW (Below.refl _ _) (by rw [hT]; exact rfl))
              clear fK hE hF
              go_simp
            refine stepsAll_cons (k := 8) ?_ ?_
            · intro fa fx fW hF fB hE K fK
              have q7 : fx 7 = .pointer (some ⟨(bd.add (i * 2)).block, (bd.add (i * 2)).off + 1, none⟩) := by have q := hE ⟨7, .data⟩ (by simp) rfl; rw [hT] at q; exact q
              have ev54 : fa.tmps[54]?.getD undef = .pointer (some ⟨(bd.add (i * 2)).block, (bd.add (i * 2)).off + 1, none⟩) := (hF.ev 7 54 (by kernel_rfl)).trans q7
              have hq2 := cell_below fB hc2
              refine wpOp_val rfl (wanted_none rfl) ?_ (fK (.int .i64 di) fW (Below.refl _ _) (by rw [hT]; exact rfl))
              clear fK hE hF
              go_simp
            refine stepsAll_cons (k := 9) ?_ ?_
            · intro fa fx fW hF fB hE K fK
              have q3 : fx 3 = .int .i64 xi := by have q := hE ⟨3, .data⟩ (by simp) rfl; rw [hT] at q; exact q
              have q8 : fx 8 = .int .i64 di := by have q := hE ⟨8, .data⟩ (by simp) rfl; rw [hT] at q; exact q
              have ev50 : fa.tmps[50]?.getD undef = .int .i64 xi := (hF.ev 3 50 (by kernel_rfl)).trans q3
              have ev55 : fa.tmps[55]?.getD undef = .int .i64 di := (hF.ev 8 55 (by kernel_rfl)).trans q8
              refine wpOp_val rfl (wanted_none rfl) ?_ (fK (.bool false) fW (Below.refl _ _) (by rw [hT]; exact rfl))
              clear fK hE hF
              go_simp
            refine stepsAll_cons (k := 10) ?_ ?_
            · intro fa fx fW hF fB hE K fK
              have q9 : fx 9 = .bool false := by have q := hE ⟨9, .data⟩ (by simp) rfl; rw [hT] at q; exact q
              have ev56 : fa.tmps[56]?.getD undef = .bool false := (hF.ev 9 56 (by kernel_rfl)).trans q9
              refine wpOp_val rfl (wanted_none rfl) ?_ (fK (.bool false) fW (Below.refl _ _) (by rw [hT]; exact rfl))
              clear fK hE hF
              go_simp
            refine stepsAll_cons (k := 11) ?_ ?_
            · intro fa fx fW hF fB hE K fK
              have q10 : fx 10 = .bool false := by have q := hE ⟨10, .guard⟩ (by simp) rfl; rw [hT] at q; exact q
              have ev9 : fa.tmps[9]?.getD undef = .int .i64 (bestI best) := hF.eo 9 (by kernel_rfl)
              exact wpOp_skip rfl (by simp [Region.wanted, hF.yes 10 57 (by kernel_rfl) false q10]) (fK undef fW (Below.refl _ _) (by rw [hT]; exact rfl))
            refine stepsAll_cons (k := 12) ?_ ?_
            · intro fa fx fW hF fB hE K fK
              have q10 : fx 10 = .bool false := by have q := hE ⟨10, .guard⟩ (by simp) rfl; rw [hT] at q; exact q
              have q11 : fx 11 = undef := by have q := hE ⟨11, .data⟩ (by simp) rfl; rw [hT] at q; exact q
              have ev58 : fa.tmps[58]?.getD undef = undef := (hF.ev 11 58 (by kernel_rfl)).trans q11
              exact wpOp_skip rfl (by simp [Region.wanted, hF.yes 10 57 (by kernel_rfl) false q10]) (fK undef fW (Below.refl _ _) (by rw [hT]; exact rfl))
            refine stepsAll_cons (k := 13) ?_ ?_
            · intro fa fx fW hF fB hE K fK
              have q10 : fx 10 = .bool false := by have q := hE ⟨10, .chain⟩ (by simp) rfl; rw [hT] at q; exact q
              have q12 : fx 12 = undef := by have q := hE ⟨12, .data⟩ (by simp) rfl; rw [hT] at q; exact q
              have ev59 : fa.tmps[59]?.getD undef = undef := (hF.ev 12 59 (by kernel_rfl)).trans q12
              exact wpOp_skip rfl (by simp [Region.wanted, hF.yes 10 57 (by kernel_rfl) false q10]) (fK undef fW (Below.refl _ _) (by rw [hT]; exact rfl))
            refine stepsAll_cons (k := 14) ?_ ?_
            · intro fa fx fW hF fB hE K fK
              have q13 : fx 13 = undef := by have q := hE ⟨13, .guard⟩ (by simp) rfl; rw [hT] at q; exact q
              have ev0 : fa.tmps[0]?.getD undef = .slice (some bd) n d := hF.eo 0 (by kernel_rfl)
              exact wpOp_skip rfl (by simp [Region.wanted, hF.no 13 60 (by kernel_rfl) q13]) (fK undef fW (Below.refl _ _) (by rw [hT]; exact rfl))
            refine stepsAll_cons (k := 15) ?_ ?_
            · intro fa fx fW hF fB hE K fK
              have q13 : fx 13 = undef := by have q := hE ⟨13, .guard⟩ (by simp) rfl; rw [hT] at q; exact q
              have ev1 : fa.tmps[1]?.getD undef = .slice (some ad) n c := hF.eo 1 (by kernel_rfl)
              exact wpOp_skip rfl (by simp [Region.wanted, hF.no 13 60 (by kernel_rfl) q13]) (fK undef fW (Below.refl _ _) (by rw [hT]; exact rfl))
            refine stepsAll_cons (k := 16) ?_ ?_
            · intro fa fx fW hF fB hE K fK
              have q13 : fx 13 = undef := by have q := hE ⟨13, .guard⟩ (by simp) rfl; rw [hT] at q; exact q
              have ev11 : fa.tmps[11]?.getD undef = .int .i64 i := hF.eo 11 (by kernel_rfl)
              exact wpOp_skip rfl (by simp [Region.wanted, hF.no 13 60 (by kernel_rfl) q13]) (fK undef fW (Below.refl _ _) (by rw [hT]; exact rfl))
            refine stepsAll_cons (k := 17) ?_ ?_
            · intro fa fx fW hF fB hE K fK
              have q13 : fx 13 = undef := by have q := hE ⟨13, .guard⟩ (by simp) rfl; rw [hT] at q; exact q
              have ev9 : fa.tmps[9]?.getD undef = .int .i64 (bestI best) := hF.eo 9 (by kernel_rfl)
              exact wpOp_skip rfl (by simp [Region.wanted, hF.no 13 60 (by kernel_rfl) q13]) (fK undef fW (Below.refl _ _) (by rw [hT]; exact rfl))
            refine stepsAll_cons (k := 18) ?_ ?_
            · intro fa fx fW hF fB hE K fK
              have q13 : fx 13 = undef := by have q := hE ⟨13, .chain⟩ (by simp) rfl; rw [hT] at q; exact q
              have q14 : fx 14 = undef := by have q := hE ⟨14, .data⟩ (by simp) rfl; rw [hT] at q; exact q
              have q15 : fx 15 = undef := by have q := hE ⟨15, .data⟩ (by simp) rfl; rw [hT] at q; exact q
              have q16 : fx 16 = undef := by have q := hE ⟨16, .data⟩ (by simp) rfl; rw [hT] at q; exact q
              have q17 : fx 17 = undef := by have q := hE ⟨17, .data⟩ (by simp) rfl; rw [hT] at q; exact q
              have ev61 : fa.tmps[61]?.getD undef = undef := (hF.ev 14 61 (by kernel_rfl)).trans q14
              have ev62 : fa.tmps[62]?.getD undef = undef := (hF.ev 15 62 (by kernel_rfl)).trans q15
              have ev63 : fa.tmps[63]?.getD undef = undef := (hF.ev 16 63 (by kernel_rfl)).trans q16
              have ev64 : fa.tmps[64]?.getD undef = undef := (hF.ev 17 64 (by kernel_rfl)).trans q17
              exact wpOp_skip rfl (by simp [Region.wanted, hF.no 13 60 (by kernel_rfl) q13]) (fK undef fW (Below.refl _ _) (by rw [hT]; exact rfl))
            refine stepsAll_cons (k := 19) ?_ ?_
            · intro fa fx fW hF fB hE K fK
              have q13 : fx 13 = undef := by have q := hE ⟨13, .guard⟩ (by simp) rfl; rw [hT] at q; exact q
              have q18 : fx 18 = undef := by have q := hE ⟨18, .data⟩ (by simp) rfl; rw [hT] at q; exact q
              have ev65 : fa.tmps[65]?.getD undef = undef := (hF.ev 18 65 (by kernel_rfl)).trans q18
              exact wpOp_skip rfl (by simp [Region.wanted, hF.no 13 60 (by kernel_rfl) q13]) (fK undef fW (Below.refl _ _) (by rw [hT]; exact rfl))
            refine stepsAll_cons (k := 20) ?_ ?_
            · intro fa fx fW hF fB hE K fK
              have q10 : fx 10 = .bool false := by have q := hE ⟨10, .guard⟩ (by simp) rfl; rw [hT] at q; exact q
              have q13 : fx 13 = undef := by have q := hE ⟨13, .data⟩ (by simp) rfl; rw [hT] at q; exact q
              have q19 : fx 19 = undef := by have q := hE ⟨19, .data⟩ (by simp) rfl; rw [hT] at q; exact q
              have ev60 : fa.tmps[60]?.getD undef = undef := (hF.ev 13 60 (by kernel_rfl)).trans q13
              have ev66 : fa.tmps[66]?.getD undef = undef := (hF.ev 19 66 (by kernel_rfl)).trans q19
              exact wpOp_skip rfl (by simp [Region.wanted, hF.yes 10 57 (by kernel_rfl) false q10]) (fK undef fW (Below.refl _ _) (by rw [hT]; exact rfl))
            refine stepsAll_cons (k := 21) ?_ ?_
            · intro fa fx fW hF fB hE K fK
              have q10 : fx 10 = .bool false := by have q := hE ⟨10, .data⟩ (by simp) rfl; rw [hT] at q; exact q
              have q20 : fx 20 = undef := by have q := hE ⟨20, .data⟩ (by simp) rfl; rw [hT] at q; exact q
              have ev57 : fa.tmps[57]?.getD undef = .bool false := (hF.ev 10 57 (by kernel_rfl)).trans q10
              have ev67 : fa.tmps[67]?.getD undef = undef := (hF.ev 20 67 (by kernel_rfl)).trans q20
              refine wpOp_val rfl (wanted_none rfl) ?_ (fK (.bool false) fW (Below.refl _ _) (by rw [hT]; exact rfl))
              clear fK hE hF
              go_simp
            exact stepsAll_nil
          intro fa fx fW hF fB hx
          have q21 : fx 21 = .bool false := by have q := hx 21 (by decide); rw [hT] at q; exact q
          have ev68 : fa.tmps[68]?.getD undef = .bool false := (hF.ev 21 68 (by kernel_rfl)).trans q21
          rw [hF.eq]
          clear hF hx
          simp only [putAll, Act.put, List.setIfInBounds_toArray, List.set_cons_zero, List.set_cons_succ, q21]
          go_wp2
          go_roundw
          case rel => exact ⟨k + 1, by omega, by go_num, by rw [hnew.out], below_tr hbr fB⟩
          case measure => simp [intOf]; omega
      · obtain rfl : k = n := by omega
        have hE : Hid ((roundC k a).take k = roundC k a) := by show _ = _; exact List.take_of_length_le (by simp [roundC])
        rw [hE.out]
        go_wp2
        go_ret
        exact ⟨rfl, below_tr hb1 hbr⟩
end Go.Proofs.Ytmacpgjmhaoneaa
