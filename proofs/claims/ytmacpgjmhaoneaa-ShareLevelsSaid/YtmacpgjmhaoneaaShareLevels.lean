/- The law ShareLevels, walked. -/
import Derived.Test.YtmacpgjmhaoneaaRefNext
import Derived.Test.YtmacpgjmhaoneaaShareLevPlain
namespace Go.Proofs.Ytmacpgjmhaoneaa
open Go.RowKit
set_option maxRecDepth 100000 in
set_option maxHeartbeats 4000000 in
theorem lev_lives (cores : Int) (A : Option Addr) (n c : Nat) (l : List Cl) (start : Int) (w : World) (hr : Rds w 2 A n c (cls l)) (h : n = 0 ∨ 64 < n ∨ cores < 0 ∨ 64 < cores ∨ goodC l = false) :
    Calls Try.prog 5 #[.int .i64 cores, .slice A n c, .int .i64 start] w fun e w' => e = .returned (.bool true) ∧ Below w.heap.size w w' := by
  have HG := Lib.hid (good08 A n c l w hr)
  have hll := cls_len hr
  have H : Hid (n = 0 ∨ 64 < n ∨ cores < 0 ∨ 64 < cores ∨ goodC l = false) := h
  generalize goodC l = g at *
  clear h hr hll
  by_cases h0 : n = 0
  · subst h0
    have hd0 : ((0 : Int) == 0) = true := by simp
    go_enter Try.func5, Try.ntmps5
    go_wp2_with (go_at_call 8; refine (lives08 _).mono ?_; rintro e w1 ⟨rfl, hb1⟩)
    go_ret
    exact ⟨rfl, hb1⟩
  · have hn0 : ((n : Int) == 0) = false := by simp; omega
    by_cases h1 : 64 < (n : Int)
    · go_enter Try.func5, Try.ntmps5
      go_wp2_with (go_at_call 8; refine (lives08 _).mono ?_; rintro e w1 ⟨rfl, hb1⟩)
      go_ret
      exact ⟨rfl, hb1⟩
    · by_cases h2 : cores < 0
      · go_enter Try.func5, Try.ntmps5
        go_wp2_with (go_at_call 8; refine (lives08 _).mono ?_; rintro e w1 ⟨rfl, hb1⟩)
        go_ret
        exact ⟨rfl, hb1⟩
      · by_cases h3 : 64 < cores
        · go_enter Try.func5, Try.ntmps5
          go_wp2_with (go_at_call 8; refine (lives08 _).mono ?_; rintro e w1 ⟨rfl, hb1⟩)
          go_ret
          exact ⟨rfl, hb1⟩
        · have hg : g = false := by rcases H.out with h | h | h | h | h <;> first | exact h | (exfalso; omega)
          subst hg
          go_enter Try.func5, Try.ntmps5
          go_wp2_with (first | (go_at_call 13; (with_reducible refine HG.out.mono ?_); rintro e w1 ⟨rfl, hb1⟩) | (go_at_call 8; refine (lives08 _).mono ?_; rintro e w2 ⟨rfl, hb2⟩))
          go_ret
          exact ⟨rfl, below_tr hb1 hb2⟩
theorem cmp_lev {p q : Int} {R : Prop} (h : p < q ∨ (p = q ∧ R)) : cmpV p q = -1 ∨ (cmpV p q = 0 ∧ R) := by
  unfold cmpV
  rcases h with h | ⟨h, hr⟩
  · rw [if_pos h]; exact .inl rfl
  · rw [if_neg (by omega), if_neg (by omega)]; exact .inr ⟨rfl, hr⟩
set_option maxRecDepth 100000 in
set_option maxHeartbeats 4000000 in
theorem lev_walk (cores : Int) (A : Option Addr) (n c : Nat) (l : List Cl) (start : Int) (w : World) (hr : Rds w 2 A n c (cls l)) (h0 : 0 < n) (hn : n ≤ 64) (hc0 : 0 ≤ cores) (hc1 : cores ≤ 64) (hg : goodC l = true) (hs : I64 start) :
    Calls Try.prog 5 #[.int .i64 cores, .slice A n c, .int .i64 start] w fun e w' => e = .returned (.bool true) ∧ Below w.heap.size w w' := by
  have HG := Lib.hid (good08 A n c l w hr)
  rw [hg] at HG
  have hll := cls_len hr
  obtain ⟨g1, g2⟩ := goodC_iff.1 hg
  have hD := Lib.hid (fun W h => hdivideI A n c l cores start W h hg hc0 hc1 hs)
  have hat : atN start n < n := by unfold atN; have := Int.emod_lt_of_pos start (show (0 : Int) < n by omega); have := Int.emod_nonneg start (show (n : Int) ≠ 0 by omega); omega
  have HP := Lib.hid (parted (l := l) (order := roundC l.length (atN start n)) (fun c hc => (g2 c hc).2.2.1) (fun i hi => roundC_lt hi) cores.toNat)
  have HLV := Lib.hid (levC_all (l := l) (a := atN start n) (fun c hc => (g2 c hc).1) (by rw [hll]; exact hat) cores.toNat)
  have hdv : divideC cores.toNat l (atN start n) = divC l (roundC l.length (atN start n)) cores.toNat (List.replicate l.length 0) := rfl
  rw [← hdv] at HP HLV
  have HDM : Hid (∀ i, i < l.length → (l.getD i default).demand ≤ 64 ∧ 1 ≤ (l.getD i default).weight ∧ (l.getD i default).weight ≤ 65536) := fun i hi => ⟨(g2 _ (getDm hi)).2.2.2, (g2 _ (getDm hi)).1, (g2 _ (getDm hi)).2.1⟩
  obtain ⟨k1, k2, k3⟩ := at_of start n h0
  have K1 := Lib.hid k1
  have K2 := Lib.hid k2
  have K3 := Lib.hid k3
  generalize divideC cores.toNat l (atN start n) = xs at *
  generalize atN start n = a at *
  have hdn : ((n : Int) != (n : Int)) = false := by simp
  have hn0 : ((n : Int) == 0) = false := by simp; omega
  have hnz : (0 : Int) < n := by omega
  have htl : 0 ≤ start ∨ (start < 0 ∧ start.tmod n < 0) ∨ (start < 0 ∧ ¬ start.tmod n < 0) := by omega
  have htb : start < 0 → -(n : Int) < start.tmod n := by
    intro h
    have h1 := Int.lt_tmod_of_pos start hnz
    omega
  have HTB := Lib.hid htb
  unfold I64 at hs
  obtain ⟨s1, s2⟩ := hs
  have han : (a : Int) < n := by omega
  clear htb k1 k2 k3 g1 g2 hg hdv
  rcases htl with h1 | ⟨h1, h2⟩ | ⟨h1, h2⟩
  case' inl => have htc : 0 ≤ start % (n : Int) := Int.emod_nonneg _ (by omega)
  case' inr.inl => have htc := HTB.out h1
  case' inr.inr => have htc := HTB.out h1
  all_goals
    go_enter Try.func5, Try.ntmps5
    go_wp2_with (first | (go_at_call 13; (with_reducible refine HG.out.mono ?_); rintro e w1 ⟨rfl, hb1⟩) | (go_at_call 10; (with_reducible refine (hD.out _ (hr.below hb1)).mono ?_); rintro e w2 ⟨⟨g, rfl, ho2⟩, hb2⟩; have hx2 := (own_rds' ho2).2; clear ho2; generalize (⟨g, 0, none⟩ : Addr) = xa at hx2 ⊢))
    first
    | rw [K1.out h1]
    | rw [K2.out h1 h2]
    | rw [K3.out h1 h2]
    clear h1
    try clear h2
    try clear htc
    have hb := below_tr hb1 hb2
    clear hb1 hb2 hD
    go_loopw [58] (fun i wr => ∃ k : Nat, k ≤ n ∧ i = .int .i64 k ∧ Below w2.heap.size w2 wr) (fun i _ => n - (intOf i).toNat)
    case atStart => exact ⟨0, Nat.zero_le _, rfl, Below.refl _ _⟩
    case round =>
      obtain ⟨i, hi, rfl, hbr⟩ := hrel
      by_cases hlt : i < n
      · obtain ⟨ad, rfl⟩ := hr.some_ (by omega)
        have hlen := HP.out.len
        have hin := HP.out.in_ i (by omega)
        obtain ⟨hd64, hw1, hw2⟩ := HDM.out i (by omega)
        have hB := below_tr hb hbr
        obtain ⟨hq2, hq3⟩ := cl_read (hr.below hB) i _ (getDc_of (by omega))
        have hi1 : (i : Int) < n := by omega
        have HLI := Lib.hid (fun j hj hij hh h0 => HLV.out i j (show i < l.length by omega) hj hij hh h0)
        have HHU : Hid (hungryC l xs i = decide (xs.getD i 0 < (l.getD i default).demand)) := rfl
        have HWI : Hid ((l.getD i default).weight = wtC l i) := rfl
        have hxr := int_read (hx2.below hbr) (i := i) (by omega)
        obtain ⟨xi, hxi⟩ : ∃ xi, xi = xs.getD i 0 := ⟨_, rfl⟩
        obtain ⟨di, hdi⟩ : ∃ di, di = (l.getD i default).demand := ⟨_, rfl⟩
        obtain ⟨wi, hwi⟩ : ∃ wi, wi = (l.getD i default).weight := ⟨_, rfl⟩
        rw [← hxi] at hin hxr HHU
        rw [← hdi] at hin hd64 hq3 HHU
        rw [← hwi] at hw1 hw2 hq2 HWI
        have HXI := Lib.hid hxi
        clear hxi hdi hwi
        obtain ⟨W3, rfl⟩ : ∃ x, x = wr := ⟨_, rfl⟩
        go_wp2
        obtain ⟨W4, hW4⟩ : ∃ W4, W4 = W3.alloc (.cells #[.int .i64 wi, .int .i64 di] 30) := ⟨_, rfl⟩
        have p0 : W4.cell? ⟨W3.heap.size, 0, none⟩ = some (.int .i64 wi) := by rw [hW4]; go_simp
        have p1 : W4.cell? ⟨W3.heap.size, 1, none⟩ = some (.int .i64 di) := by rw [hW4]; go_simp
        have hb4 : Below W3.heap.size W3 W4 := by rw [hW4]; exact below_al (Below.refl _ _) _
        have hxr4 := cell_below hb4 hxr
        rw [← hW4]
        obtain ⟨bc, hbc⟩ : ∃ bc, bc = W3.heap.size := ⟨_, rfl⟩
        rw [← hbc] at p0 p1 ⊢
        have hb24 := below_tr hbr hb4
        clear hW4 hxr hq2 hq3 hbc
        go_loopw [65] (fun jv wr => ∃ k : Nat, k ≤ n ∧ jv = .int .i64 k ∧ Below W4.heap.size W4 wr) (fun jv _ => n - (intOf jv).toNat)
        case atStart => exact ⟨0, Nat.zero_le _, rfl, Below.refl _ _⟩
        case round =>
          obtain ⟨j, hj, rfl, hbj⟩ := hrel
          by_cases hltj : j < n
          · have hjn := HP.out.in_ j (by omega)
            obtain ⟨hd64j, hw1j, hw2j⟩ := HDM.out j (by omega)
            have hB5 := below_tr (below_tr hb hb24) hbj
            obtain ⟨hy2, hy3⟩ := cl_read (hr.below hB5) j _ (getDc_of (by omega))
            have hj1 : (j : Int) < n := by omega
            have HLJ := Lib.hid (fun hij hh h0 => HLI.out j (show j < l.length by omega) hij hh h0)
            have HWJ : Hid ((l.getD j default).weight = wtC l j) := rfl
            have hyr := int_read ((hx2.below hb24).below hbj) (i := j) (by omega)
            obtain ⟨xj, hxj⟩ : ∃ xj, xj = xs.getD j 0 := ⟨_, rfl⟩
            obtain ⟨dj, hdj⟩ : ∃ dj, dj = (l.getD j default).demand := ⟨_, rfl⟩
            obtain ⟨wj, hwj⟩ : ∃ wj, wj = (l.getD j default).weight := ⟨_, rfl⟩
            rw [← hxj] at hjn hyr HLJ
            rw [← hdj] at hjn hd64j hy3
            rw [← hwj] at hw1j hw2j hy2 HWJ
            rw [← HXI.out, ← HWI.out, ← HWJ.out, hll] at HLJ
            clear hxj hdj hwj
            obtain ⟨W5, rfl⟩ : ∃ x, x = wr := ⟨_, rfl⟩
            have p0' := cell_below hbj p0
            have p1' := cell_below hbj p1
            have hxr5 := cell_below hbj hxr4
            obtain ⟨W6, hW6⟩ : ∃ W6, W6 = W5.alloc (.cells #[.int .i64 wj, .int .i64 dj] 30) := ⟨_, rfl⟩
            have hb6 : Below W5.heap.size W5 W6 := by rw [hW6]; exact below_al (Below.refl _ _) _
            have m0 : W6.cell? ⟨W5.heap.size, 0, none⟩ = some (.int .i64 wj) := by rw [hW6]; go_simp
            have m1 := cell_below hb6 p0'
            have m2 := cell_below hb6 p1'
            have m3 := cell_below hb6 hxr5
            have m4 := cell_below hb6 hyr
            obtain ⟨bd, hbd⟩ : ∃ bd, bd = W5.heap.size := ⟨_, rfl⟩
            rw [← hbd] at m0
            have hb46 := below_tr hbj hb6
            clear p0' p1' hxr5
            by_cases hij : i = j
            · subst hij
              have hee : ((i : Int) == (i : Int)) = true := by simp
              go_wp2
              rw [← hW6, ← hbd]
              clear hW6 hbd hyr hy2 hy3 HLJ
              go_quiet (fail)
              go_wp2
              go_roundw
              case rel => exact ⟨i + 1, by omega, by go_num, below_dr hb46 _⟩
              case measure => simp [intOf]; omega
            · have hee : ((i : Int) == (j : Int)) = false := by simp; omega
              by_cases hh : xi < di
              · have hhd : decide (di ≤ xi) = false := by simp; omega
                by_cases hx0 : xj = 0
                · subst hx0
                  have hz : ((0 : Int) == 0) = true := by simp
                  go_wp2
                  rw [← hW6, ← hbd]
                  clear hW6 hbd hyr hy2 hy3 HLJ
                  go_quiet (fail)
                  go_wp2
                  go_roundw
                  case rel => exact ⟨j + 1, by omega, by go_num, below_dr hb46 _⟩
                  case measure => simp [intOf]; omega
                · have hz : (xj == 0) = false := by simp; omega
                  have hlev := HLJ.out hij (by rw [HHU.out]; simp; omega) (by omega)
                  have HLE := Lib.hid hlev
                  clear hlev HLJ
                  have HC := Lib.hid (fun W => dCross (xj - 1) wj xi wi W (by unfold I64; omega) (by unfold I64; omega) (by unfold I64; omega) (by unfold I64; omega))
                  go_wp2
                  rw [← hW6, ← hbd]
                  clear hW6 hbd hyr hy2 hy3
                  go_quiet (fail)
                  go_wp2
                  obtain ⟨W7, hW7⟩ : ∃ W7, W7 = W6.drewN nq := ⟨_, rfl⟩
                  have hb67 : Below W6.heap.size W6 W7 := by rw [hW7]; exact below_dr (Below.refl _ _) _
                  rw [← hW7]
                  have l0 := cell_below hb67 m0
                  have l1 := cell_below hb67 m1
                  have l3 := cell_below hb67 m3
                  have l4 := cell_below hb67 m4
                  have hb47 := below_tr hb46 hb67
                  clear hW7 m0 m1 m2 m3 m4
                  have hr := cmp_lev HLE.out
                  obtain ⟨r, hrr⟩ : ∃ r, r = cmpV ((xj - 1) * wi) (xi * wj) := ⟨_, rfl⟩
                  rw [← hrr] at HC hr
                  clear hrr HLE
                  have hja : 0 ≤ (j : Int) - a + n := by omega
                  have hia : 0 ≤ (i : Int) - a + n := by omega
                  obtain ⟨T, hT⟩ : ∃ T : Nat → Fact, ∀ t_, T t_ = ([Fact.eq (.slice (some xa) n n), Fact.eq (.int .i64 j), Fact.eq (.pointer (some (xa.add j))), Fact.eq (.int .i64 xj), Fact.eq (.int .i64 (xj - 1)), Fact.eq (.pointer (some ⟨bd, 0, none⟩)), Fact.eq (.int .i64 wj), Fact.eq (.slice (some xa) n n), Fact.eq (.int .i64 i), Fact.eq (.pointer (some (xa.add i))), Fact.eq (.int .i64 xi), Fact.eq (.pointer (some ⟨bc, 0, none⟩)), Fact.eq (.int .i64 wi), Fact.eq (.int .i64 r), Fact.eq (.int .i64 r)] : List (Fact)).getD t_ Fact.any := ⟨_, fun _ => rfl⟩
                  refine region_tab [(0, 89), (1, 90), (2, 91), (3, 92), (4, 93), (5, 94), (6, 95), (7, 96), (8, 97), (9, 98), (10, 99), (11, 100), (12, 101), (13, 102), (14, 13)] T (by kernel_rfl) (by kernel_rfl) (by kernel_rfl) (by kernel_rfl) (by kernel_rfl) ?_ ?_
                  · skip
                    refine stepsAll_cons (k := 0) ?_ ?_
                    · intro fa fx fW hF fB hE K fK
                      have ev7 : fa.tmps[7]?.getD undef = .slice (some xa) n n := hF.eo 7 (by kernel_rfl)
                      refine wpOp_val rfl (wanted_none rfl) ?_ (fK (.slice (some xa) n n) fW (Below.refl _ _) (by rw [hT]; exact rfl))
                      clear fK hE hF
                      go_simp
                    refine stepsAll_cons (k := 1) ?_ ?_
                    · intro fa fx fW hF fB hE K fK
                      have ev11 : fa.tmps[11]?.getD undef = .int .i64 j := hF.eo 11 (by kernel_rfl)
                      refine wpOp_val rfl (wanted_none rfl) ?_ (fK (.int .i64 j) fW (Below.refl _ _) (by rw [hT]; exact rfl))
                      clear fK hE hF
                      go_simp
                    refine stepsAll_cons (k := 2) ?_ ?_
                    · intro fa fx fW hF fB hE K fK
                      have q0 : fx 0 = .slice (some xa) n n := by have q := hE ⟨0, .data⟩ (by simp) rfl; rw [hT] at q; exact q
                      have q1 : fx 1 = .int .i64 j := by have q := hE ⟨1, .data⟩ (by simp) rfl; rw [hT] at q; exact q
                      have ev89 : fa.tmps[89]?.getD undef = .slice (some xa) n n := (hF.ev 0 89 (by kernel_rfl)).trans q0
                      have ev90 : fa.tmps[90]?.getD undef = .int .i64 j := (hF.ev 1 90 (by kernel_rfl)).trans q1
                      refine wpOp_val rfl (wanted_none rfl) ?_ (fK (.pointer (some (xa.add j))) fW (Below.refl _ _) (by rw [hT]; exact rfl))
                      clear fK hE hF
                      go_simp
                    refine stepsAll_cons (k := 3) ?_ ?_
                    · intro fa fx fW hF fB hE K fK
                      have q2 : fx 2 = .pointer (some (xa.add j)) := by have q := hE ⟨2, .data⟩ (by simp) rfl; rw [hT] at q; exact q
                      have ev91 : fa.tmps[91]?.getD undef = .pointer (some (xa.add j)) := (hF.ev 2 91 (by kernel_rfl)).trans q2
                      have z3 := cell_below fB l4
                      refine wpOp_val rfl (wanted_none rfl) ?_ (fK (.int .i64 xj) fW (Below.refl _ _) (by rw [hT]; exact rfl))
                      clear fK hE hF
                      go_simp
                    refine stepsAll_cons (k := 4) ?_ ?_
                    · intro fa fx fW hF fB hE K fK
                      have q3 : fx 3 = .int .i64 xj := by have q := hE ⟨3, .data⟩ (by simp) rfl; rw [hT] at q; exact q
                      have ev92 : fa.tmps[92]?.getD undef = .int .i64 xj := (hF.ev 3 92 (by kernel_rfl)).trans q3
                      refine wpOp_val rfl (wanted_none rfl) ?_ (fK (.int .i64 (xj - 1)) fW (Below.refl _ _) (by rw [hT]; exact rfl))
                      clear fK hE hF
                      go_simp
                      exact IntWalk.i64_in _ (by omega)
                    refine stepsAll_cons (k := 5) ?_ ?_
                    · intro fa fx fW hF fB hE K fK
                      have ev12 : fa.tmps[12]?.getD undef = .pointer (some ⟨bd, 0, none⟩) := hF.eo 12 (by kernel_rfl)
                      refine wpOp_val rfl (wanted_none rfl) ?_ (fK (.pointer (some ⟨bd, 0, none⟩)) fW (Below.refl _ _) (by rw [hT]; exact rfl))
                      clear fK hE hF
                      go_simp
                    refine stepsAll_cons (k := 6) ?_ ?_
                    · intro fa fx fW hF fB hE K fK
                      have q5 : fx 5 = .pointer (some ⟨bd, 0, none⟩) := by have q := hE ⟨5, .data⟩ (by simp) rfl; rw [hT] at q; exact q
                      have ev94 : fa.tmps[94]?.getD undef = .pointer (some ⟨bd, 0, none⟩) := (hF.ev 5 94 (by kernel_rfl)).trans q5
                      have z6 := cell_below fB l0
                      refine wpOp_val rfl (wanted_none rfl) ?_ (fK (.int .i64 wj) fW (Below.refl _ _) (by rw [hT]; exact rfl))
                      clear fK hE hF
                      go_simp
                    refine stepsAll_cons (k := 7) ?_ ?_
                    · intro fa fx fW hF fB hE K fK
                      have ev7 : fa.tmps[7]?.getD undef = .slice (some xa) n n := hF.eo 7 (by kernel_rfl)
                      refine wpOp_val rfl (wanted_none rfl) ?_ (fK (.slice (some xa) n n) fW (Below.refl _ _) (by rw [hT]; exact rfl))
                      clear fK hE hF
                      go_simp
                    refine stepsAll_cons (k := 8) ?_ ?_
                    · intro fa fx fW hF fB hE K fK
                      have ev9 : fa.tmps[9]?.getD undef = .int .i64 i := hF.eo 9 (by kernel_rfl)
                      refine wpOp_val rfl (wanted_none rfl) ?_ (fK (.int .i64 i) fW (Below.refl _ _) (by rw [hT]; exact rfl))
                      clear fK hE hF
                      go_simp
                    refine stepsAll_cons (k := 9) ?_ ?_
                    · intro fa fx fW hF fB hE K fK
                      have q7 : fx 7 = .slice (some xa) n n := by have q := hE ⟨7, .data⟩ (by simp) rfl; rw [hT] at q; exact q
                      have q8 : fx 8 = .int .i64 i := by have q := hE ⟨8, .data⟩ (by simp) rfl; rw [hT] at q; exact q
                      have ev96 : fa.tmps[96]?.getD undef = .slice (some xa) n n := (hF.ev 7 96 (by kernel_rfl)).trans q7
                      have ev97 : fa.tmps[97]?.getD undef = .int .i64 i := (hF.ev 8 97 (by kernel_rfl)).trans q8
                      refine wpOp_val rfl (wanted_none rfl) ?_ (fK (.pointer (some (xa.add i))) fW (Below.refl _ _) (by rw [hT]; exact rfl))
                      clear fK hE hF
                      go_simp
                    refine stepsAll_cons (k := 10) ?_ ?_
                    · intro fa fx fW hF fB hE K fK
                      have q9 : fx 9 = .pointer (some (xa.add i)) := by have q := hE ⟨9, .data⟩ (by simp) rfl; rw [hT] at q; exact q
                      have ev98 : fa.tmps[98]?.getD undef = .pointer (some (xa.add i)) := (hF.ev 9 98 (by kernel_rfl)).trans q9
                      have z10 := cell_below fB l3
                      refine wpOp_val rfl (wanted_none rfl) ?_ (fK (.int .i64 xi) fW (Below.refl _ _) (by rw [hT]; exact rfl))
                      clear fK hE hF
                      go_simp
                    refine stepsAll_cons (k := 11) ?_ ?_
                    · intro fa fx fW hF fB hE K fK
                      have ev10 : fa.tmps[10]?.getD undef = .pointer (some ⟨bc, 0, none⟩) := hF.eo 10 (by kernel_rfl)
                      refine wpOp_val rfl (wanted_none rfl) ?_ (fK (.pointer (some ⟨bc, 0, none⟩)) fW (Below.refl _ _) (by rw [hT]; exact rfl))
                      clear fK hE hF
                      go_simp
                    refine stepsAll_cons (k := 12) ?_ ?_
                    · intro fa fx fW hF fB hE K fK
                      have q11 : fx 11 = .pointer (some ⟨bc, 0, none⟩) := by have q := hE ⟨11, .data⟩ (by simp) rfl; rw [hT] at q; exact q
                      have ev100 : fa.tmps[100]?.getD undef = .pointer (some ⟨bc, 0, none⟩) := (hF.ev 11 100 (by kernel_rfl)).trans q11
                      have z12 := cell_below fB l1
                      refine wpOp_val rfl (wanted_none rfl) ?_ (fK (.int .i64 wi) fW (Below.refl _ _) (by rw [hT]; exact rfl))
                      clear fK hE hF
                      go_simp
                    refine stepsAll_cons (k := 13) ?_ ?_
                    · intro fa fx fW hF fB hE K fK
                      have q4 : fx 4 = .int .i64 (xj - 1) := by have q := hE ⟨4, .data⟩ (by simp) rfl; rw [hT] at q; exact q
                      have q6 : fx 6 = .int .i64 wj := by have q := hE ⟨6, .data⟩ (by simp) rfl; rw [hT] at q; exact q
                      have q10 : fx 10 = .int .i64 xi := by have q := hE ⟨10, .data⟩ (by simp) rfl; rw [hT] at q; exact q
                      have q12 : fx 12 = .int .i64 wi := by have q := hE ⟨12, .data⟩ (by simp) rfl; rw [hT] at q; exact q
                      have ev93 : fa.tmps[93]?.getD undef = .int .i64 (xj - 1) := (hF.ev 4 93 (by kernel_rfl)).trans q4
                      have ev95 : fa.tmps[95]?.getD undef = .int .i64 wj := (hF.ev 6 95 (by kernel_rfl)).trans q6
                      have ev99 : fa.tmps[99]?.getD undef = .int .i64 xi := (hF.ev 10 99 (by kernel_rfl)).trans q10
                      have ev101 : fa.tmps[101]?.getD undef = .int .i64 wi := (hF.ev 12 101 (by kernel_rfl)).trans q12
                      refine wpOp_call rfl (wanted_none rfl) (by go_simp; exact ⟨rfl, rfl⟩) ?_
                      refine (HC.out fW).mono ?_
                      rintro e w' ⟨rfl, hbb⟩
                      exact ⟨_, rfl, fK (.int .i64 r) (w') (hbb) (by rw [hT]; exact rfl)⟩
                    refine stepsAll_cons (k := 14) ?_ ?_
                    · intro fa fx fW hF fB hE K fK
                      have q13 : fx 13 = .int .i64 r := by have q := hE ⟨13, .data⟩ (by simp) rfl; rw [hT] at q; exact q
                      have ev102 : fa.tmps[102]?.getD undef = .int .i64 r := (hF.ev 13 102 (by kernel_rfl)).trans q13
                      refine wpOp_val rfl (wanted_none rfl) ?_ (fK (.int .i64 r) fW (Below.refl _ _) (by rw [hT]; exact rfl))
                      clear fK hE hF
                      go_simp
                    exact stepsAll_nil
                  intro fa fx fW hF fB hx
                  have q14 : fx 14 = .int .i64 r := by have q := hx 14 (by decide); rw [hT] at q; exact q
                  have ev13 : fa.tmps[13]?.getD undef = .int .i64 r := (hF.ev 14 13 (by kernel_rfl)).trans q14
                  rw [hF.eq]
                  clear hF hx
                  simp only [putAll, Act.put, List.setIfInBounds_toArray, List.set_cons_zero, List.set_cons_succ, q14]
                  have hb48 := below_tr hb47 fB
                  clear fB
                  obtain ⟨W8, rfl⟩ : ∃ x, x = fW := ⟨_, rfl⟩
                  go_wp2
                  obtain ⟨T, hT⟩ : ∃ T : Nat → Fact, ∀ t_, T t_ = ([Fact.eq (.int .i64 j), Fact.eq (.int .i64 a), Fact.eq (.int .i64 ((j : Int) - a)), Fact.eq (.slice (some ad) n c), Fact.eq (.int .i64 n), Fact.eq (.int .i64 ((j : Int) - a + n)), Fact.eq (.slice (some ad) n c), Fact.eq (.int .i64 n), Fact.eq (.int .i64 (((j : Int) - a + n) % n)), Fact.eq (.int .i64 i), Fact.eq (.int .i64 a), Fact.eq (.int .i64 ((i : Int) - a)), Fact.eq (.slice (some ad) n c), Fact.eq (.int .i64 n), Fact.eq (.int .i64 ((i : Int) - a + n)), Fact.eq (.slice (some ad) n c), Fact.eq (.int .i64 n), Fact.eq (.int .i64 (((i : Int) - a + n) % n)), Fact.eq (.bool (decide (((j : Int) - a + n) % n < ((i : Int) - a + n) % n))), Fact.eq (.bool (decide (((j : Int) - a + n) % n < ((i : Int) - a + n) % n)))] : List (Fact)).getD t_ Fact.any := ⟨_, fun _ => rfl⟩
                  refine region_tab [(0, 103), (1, 104), (2, 105), (3, 106), (4, 107), (5, 108), (6, 109), (7, 110), (8, 111), (9, 112), (10, 113), (11, 114), (12, 115), (13, 116), (14, 117), (15, 118), (16, 119), (17, 120), (18, 121), (19, 14)] T (by kernel_rfl) (by kernel_rfl) (by kernel_rfl) (by kernel_rfl) (by kernel_rfl) ?_ ?_
                  · skip
                    refine stepsAll_cons (k := 0) ?_ ?_
                    · intro fa fx fW hF fB hE K fK
                      have ev11 : fa.tmps[11]?.getD undef = .int .i64 j := hF.eo 11 (by kernel_rfl)
                      refine wpOp_val rfl (wanted_none rfl) ?_ (fK (.int .i64 j) fW (Below.refl _ _) (by rw [hT]; exact rfl))
                      clear fK hE hF
                      go_simp
                    refine stepsAll_cons (k := 1) ?_ ?_
                    · intro fa fx fW hF fB hE K fK
                      have ev8 : fa.tmps[8]?.getD undef = .int .i64 a := hF.eo 8 (by kernel_rfl)
                      refine wpOp_val rfl (wanted_none rfl) ?_ (fK (.int .i64 a) fW (Below.refl _ _) (by rw [hT]; exact rfl))
                      clear fK hE hF
                      go_simp
                    refine stepsAll_cons (k := 2) ?_ ?_
                    · intro fa fx fW hF fB hE K fK
                      have q0 : fx 0 = .int .i64 j := by have q := hE ⟨0, .data⟩ (by simp) rfl; rw [hT] at q; exact q
                      have q1 : fx 1 = .int .i64 a := by have q := hE ⟨1, .data⟩ (by simp) rfl; rw [hT] at q; exact q
                      have ev103 : fa.tmps[103]?.getD undef = .int .i64 j := (hF.ev 0 103 (by kernel_rfl)).trans q0
                      have ev104 : fa.tmps[104]?.getD undef = .int .i64 a := (hF.ev 1 104 (by kernel_rfl)).trans q1
                      refine wpOp_val rfl (wanted_none rfl) ?_ (fK (.int .i64 ((j : Int) - a)) fW (Below.refl _ _) (by rw [hT]; exact rfl))
                      clear fK hE hF
                      go_simp
                      exact IntWalk.i64_in _ (by omega)
                    refine stepsAll_cons (k := 3) ?_ ?_
                    · intro fa fx fW hF fB hE K fK
                      have ev1 : fa.tmps[1]?.getD undef = .slice (some ad) n c := hF.eo 1 (by kernel_rfl)
                      refine wpOp_val rfl (wanted_none rfl) ?_ (fK (.slice (some ad) n c) fW (Below.refl _ _) (by rw [hT]; exact rfl))
                      clear fK hE hF
                      go_simp
                    refine stepsAll_cons (k := 4) ?_ ?_
                    · intro fa fx fW hF fB hE K fK
                      have q3 : fx 3 = .slice (some ad) n c := by have q := hE ⟨3, .data⟩ (by simp) rfl; rw [hT] at q; exact q
                      have ev106 : fa.tmps[106]?.getD undef = .slice (some ad) n c := (hF.ev 3 106 (by kernel_rfl)).trans q3
                      refine wpOp_val rfl (wanted_none rfl) ?_ (fK (.int .i64 n) fW (Below.refl _ _) (by rw [hT]; exact rfl))
                      clear fK hE hF
                      go_simp
                    refine stepsAll_cons (k := 5) ?_ ?_
                    · intro fa fx fW hF fB hE K fK
                      have q2 : fx 2 = .int .i64 ((j : Int) - a) := by have q := hE ⟨2, .data⟩ (by simp) rfl; rw [hT] at q; exact q
                      have q4 : fx 4 = .int .i64 n := by have q := hE ⟨4, .data⟩ (by simp) rfl; rw [hT] at q; exact q
                      have ev105 : fa.tmps[105]?.getD undef = .int .i64 ((j : Int) - a) := (hF.ev 2 105 (by kernel_rfl)).trans q2
                      have ev107 : fa.tmps[107]?.getD undef = .int .i64 n := (hF.ev 4 107 (by kernel_rfl)).trans q4
                      refine wpOp_val rfl (wanted_none rfl) ?_ (fK (.int .i64 ((j : Int) - a + n)) fW (Below.refl _ _) (by rw [hT]; exact rfl))
                      clear fK hE hF
                      go_simp
                      exact IntWalk.i64_in _ (by omega)
                    refine stepsAll_cons (k := 6) ?_ ?_
                    · intro fa fx fW hF fB hE K fK
                      have ev1 : fa.tmps[1]?.getD undef = .slice (some ad) n c := hF.eo 1 (by kernel_rfl)
                      refine wpOp_val rfl (wanted_none rfl) ?_ (fK (.slice (some ad) n c) fW (Below.refl _ _) (by rw [hT]; exact rfl))
                      clear fK hE hF
                      go_simp
                    refine stepsAll_cons (k := 7) ?_ ?_
                    · intro fa fx fW hF fB hE K fK
                      have q6 : fx 6 = .slice (some ad) n c := by have q := hE ⟨6, .data⟩ (by simp) rfl; rw [hT] at q; exact q
                      have ev109 : fa.tmps[109]?.getD undef = .slice (some ad) n c := (hF.ev 6 109 (by kernel_rfl)).trans q6
                      refine wpOp_val rfl (wanted_none rfl) ?_ (fK (.int .i64 n) fW (Below.refl _ _) (by rw [hT]; exact rfl))
                      clear fK hE hF
                      go_simp
                    refine stepsAll_cons (k := 8) ?_ ?_
                    · intro fa fx fW hF fB hE K fK
                      have q5 : fx 5 = .int .i64 ((j : Int) - a + n) := by have q := hE ⟨5, .data⟩ (by simp) rfl; rw [hT] at q; exact q
                      have q7 : fx 7 = .int .i64 n := by have q := hE ⟨7, .data⟩ (by simp) rfl; rw [hT] at q; exact q
                      have ev108 : fa.tmps[108]?.getD undef = .int .i64 ((j : Int) - a + n) := (hF.ev 5 108 (by kernel_rfl)).trans q5
                      have ev110 : fa.tmps[110]?.getD undef = .int .i64 n := (hF.ev 7 110 (by kernel_rfl)).trans q7
                      refine wpOp_val rfl (wanted_none rfl) ?_ (fK (.int .i64 (((j : Int) - a + n) % n)) fW (Below.refl _ _) (by rw [hT]; exact rfl))
                      clear fK hE hF
                      go_simp
                      rw [if_neg (by omega), IntWalk.rem_in _ _ hja, Int.add_emod_right]
                    refine stepsAll_cons (k := 9) ?_ ?_
                    · intro fa fx fW hF fB hE K fK
                      have ev9 : fa.tmps[9]?.getD undef = .int .i64 i := hF.eo 9 (by kernel_rfl)
                      refine wpOp_val rfl (wanted_none rfl) ?_ (fK (.int .i64 i) fW (Below.refl _ _) (by rw [hT]; exact rfl))
                      clear fK hE hF
                      go_simp
                    refine stepsAll_cons (k := 10) ?_ ?_
                    · intro fa fx fW hF fB hE K fK
                      have ev8 : fa.tmps[8]?.getD undef = .int .i64 a := hF.eo 8 (by kernel_rfl)
                      refine wpOp_val rfl (wanted_none rfl) ?_ (fK (.int .i64 a) fW (Below.refl _ _) (by rw [hT]; exact rfl))
                      clear fK hE hF
                      go_simp
                    refine stepsAll_cons (k := 11) ?_ ?_
                    · intro fa fx fW hF fB hE K fK
                      have q9 : fx 9 = .int .i64 i := by have q := hE ⟨9, .data⟩ (by simp) rfl; rw [hT] at q; exact q
                      have q10 : fx 10 = .int .i64 a := by have q := hE ⟨10, .data⟩ (by simp) rfl; rw [hT] at q; exact q
                      have ev112 : fa.tmps[112]?.getD undef = .int .i64 i := (hF.ev 9 112 (by kernel_rfl)).trans q9
                      have ev113 : fa.tmps[113]?.getD undef = .int .i64 a := (hF.ev 10 113 (by kernel_rfl)).trans q10
                      refine wpOp_val rfl (wanted_none rfl) ?_ (fK (.int .i64 ((i : Int) - a)) fW (Below.refl _ _) (by rw [hT]; exact rfl))
                      clear fK hE hF
                      go_simp
                      exact IntWalk.i64_in _ (by omega)
                    refine stepsAll_cons (k := 12) ?_ ?_
                    · intro fa fx fW hF fB hE K fK
                      have ev1 : fa.tmps[1]?.getD undef = .slice (some ad) n c := hF.eo 1 (by kernel_rfl)
                      refine wpOp_val rfl (wanted_none rfl) ?_ (fK (.slice (some ad) n c) fW (Below.refl _ _) (by rw [hT]; exact rfl))
                      clear fK hE hF
                      go_simp
                    refine stepsAll_cons (k := 13) ?_ ?_
                    · intro fa fx fW hF fB hE K fK
                      have q12 : fx 12 = .slice (some ad) n c := by have q := hE ⟨12, .data⟩ (by simp) rfl; rw [hT] at q; exact q
                      have ev115 : fa.tmps[115]?.getD undef = .slice (some ad) n c := (hF.ev 12 115 (by kernel_rfl)).trans q12
                      refine wpOp_val rfl (wanted_none rfl) ?_ (fK (.int .i64 n) fW (Below.refl _ _) (by rw [hT]; exact rfl))
                      clear fK hE hF
                      go_simp
                    refine stepsAll_cons (k := 14) ?_ ?_
                    · intro fa fx fW hF fB hE K fK
                      have q11 : fx 11 = .int .i64 ((i : Int) - a) := by have q := hE ⟨11, .data⟩ (by simp) rfl; rw [hT] at q; exact q
                      have q13 : fx 13 = .int .i64 n := by have q := hE ⟨13, .data⟩ (by simp) rfl; rw [hT] at q; exact q
                      have ev114 : fa.tmps[114]?.getD undef = .int .i64 ((i : Int) - a) := (hF.ev 11 114 (by kernel_rfl)).trans q11
                      have ev116 : fa.tmps[116]?.getD undef = .int .i64 n := (hF.ev 13 116 (by kernel_rfl)).trans q13
                      refine wpOp_val rfl (wanted_none rfl) ?_ (fK (.int .i64 ((i : Int) - a + n)) fW (Below.refl _ _) (by rw [hT]; exact rfl))
                      clear fK hE hF
                      go_simp
                      exact IntWalk.i64_in _ (by omega)
                    refine stepsAll_cons (k := 15) ?_ ?_
                    · intro fa fx fW hF fB hE K fK
                      have ev1 : fa.tmps[1]?.getD undef = .slice (some ad) n c := hF.eo 1 (by kernel_rfl)
                      refine wpOp_val rfl (wanted_none rfl) ?_ (fK (.slice (some ad) n c) fW (Below.refl _ _) (by rw [hT]; exact rfl))
                      clear fK hE hF
                      go_simp
                    refine stepsAll_cons (k := 16) ?_ ?_
                    · intro fa fx fW hF fB hE K fK
                      have q15 : fx 15 = .slice (some ad) n c := by have q := hE ⟨15, .data⟩ (by simp) rfl; rw [hT] at q; exact q
                      have ev118 : fa.tmps[118]?.getD undef = .slice (some ad) n c := (hF.ev 15 118 (by kernel_rfl)).trans q15
                      refine wpOp_val rfl (wanted_none rfl) ?_ (fK (.int .i64 n) fW (Below.refl _ _) (by rw [hT]; exact rfl))
                      clear fK hE hF
                      go_simp
                    refine stepsAll_cons (k := 17) ?_ ?_
                    · intro fa fx fW hF fB hE K fK
                      have q14 : fx 14 = .int .i64 ((i : Int) - a + n) := by have q := hE ⟨14, .data⟩ (by simp) rfl; rw [hT] at q; exact q
                      have q16 : fx 16 = .int .i64 n := by have q := hE ⟨16, .data⟩ (by simp) rfl; rw [hT] at q; exact q
                      have ev117 : fa.tmps[117]?.getD undef = .int .i64 ((i : Int) - a + n) := (hF.ev 14 117 (by kernel_rfl)).trans q14
                      have ev119 : fa.tmps[119]?.getD undef = .int .i64 n := (hF.ev 16 119 (by kernel_rfl)).trans q16
                      refine wpOp_val rfl (wanted_none rfl) ?_ (fK (.int .i64 (((i : Int) - a + n) % n)) fW (Below.refl _ _) (by rw [hT]; exact rfl))
                      clear fK hE hF
                      go_simp
                      rw [if_neg (by omega), IntWalk.rem_in _ _ hia, Int.add_emod_right]
                    refine stepsAll_cons (k := 18) ?_ ?_
                    · intro fa fx fW hF fB hE K fK
                      have q8 : fx 8 = .int .i64 (((j : Int) - a + n) % n) := by have q := hE ⟨8, .data⟩ (by simp) rfl; rw [hT] at q; exact q
                      have q17 : fx 17 = .int .i64 (((i : Int) - a + n) % n) := by have q := hE ⟨17, .data⟩ (by simp) rfl; rw [hT] at q; exact q
                      have ev111 : fa.tmps[111]?.getD undef = .int .i64 (((j : Int) - a + n) % n) := (hF.ev 8 111 (by kernel_rfl)).trans q8
                      have ev120 : fa.tmps[120]?.getD undef = .int .i64 (((i : Int) - a + n) % n) := (hF.ev 17 120 (by kernel_rfl)).trans q17
                      refine wpOp_val rfl (wanted_none rfl) ?_ (fK (.bool (decide (((j : Int) - a + n) % n < ((i : Int) - a + n) % n))) fW (Below.refl _ _) (by rw [hT]; exact rfl))
                      clear fK hE hF
                      go_simp
                    refine stepsAll_cons (k := 19) ?_ ?_
                    · intro fa fx fW hF fB hE K fK
                      have q18 : fx 18 = .bool (decide (((j : Int) - a + n) % n < ((i : Int) - a + n) % n)) := by have q := hE ⟨18, .data⟩ (by simp) rfl; rw [hT] at q; exact q
                      have ev121 : fa.tmps[121]?.getD undef = .bool (decide (((j : Int) - a + n) % n < ((i : Int) - a + n) % n)) := (hF.ev 18 121 (by kernel_rfl)).trans q18
                      refine wpOp_val rfl (wanted_none rfl) ?_ (fK (.bool (decide (((j : Int) - a + n) % n < ((i : Int) - a + n) % n))) fW (Below.refl _ _) (by rw [hT]; exact rfl))
                      clear fK hE hF
                      go_simp
                    exact stepsAll_nil
                  intro fa fx fW hF fB hx
                  have q19 : fx 19 = .bool (decide (((j : Int) - a + n) % n < ((i : Int) - a + n) % n)) := by have q := hx 19 (by decide); rw [hT] at q; exact q
                  have ev14 : fa.tmps[14]?.getD undef = .bool (decide (((j : Int) - a + n) % n < ((i : Int) - a + n) % n)) := (hF.ev 19 14 (by kernel_rfl)).trans q19
                  rw [hF.eq]
                  clear hF hx
                  simp only [putAll, Act.put, List.setIfInBounds_toArray, List.set_cons_zero, List.set_cons_succ, q19]
                  have hb49 := below_tr hb48 fB
                  clear fB
                  rcases hr with hr | ⟨hr, hp⟩
                  · subst hr
                    clear hja hia
                    generalize decide (((j : Int) - a + n) % n < ((i : Int) - a + n) % n) = ah at *
                    go_wp2
                    go_roundw
                    case rel => exact ⟨j + 1, by omega, by go_num, hb49⟩
                    case measure => simp [intOf]; omega
                  · subst hr
                    have hah : decide (((j : Int) - a + n) % n < ((i : Int) - a + n) % n) = true := by simpa [posC] using hp
                    rw [hah]
                    clear hja hia hah hp
                    go_wp2
                    go_roundw
                    case rel => exact ⟨j + 1, by omega, by go_num, hb49⟩
                    case measure => simp [intOf]; omega
              · have hhd : decide (di ≤ xi) = true := by simp; omega
                go_wp2
                rw [← hW6, ← hbd]
                clear hW6 hbd hyr hy2 hy3 HLJ
                go_quiet (fail)
                go_wp2
                go_roundw
                case rel => exact ⟨j + 1, by omega, by go_num, below_dr hb46 _⟩
                case measure => simp [intOf]; omega
          · obtain rfl : j = n := by omega
            go_wp2
            go_roundw
            case rel => exact ⟨i + 1, by omega, by go_num, below_tr hb24 hbj⟩
            case measure => simp [intOf]; omega
      · obtain rfl : i = n := by omega
        go_wp2_with (go_at_call 8; refine (lives08 _).mono ?_; rintro e w5 ⟨rfl, hb5⟩)
        go_ret
        exact ⟨rfl, below_tr (below_tr hb hbr) hb5⟩
end Go.Proofs.Ytmacpgjmhaoneaa
