/- The law CodeSticks, walked. -/
import Derived.Test.YtdhckbpfkdekmaaAsk
namespace Go.Proofs.Ytdhckbpfkdekmaa
open Go.RowKit
section
variable (A D E : Option Addr) (n c m d p e : Nat) (w : World)
theorem sticks_lives1 (h : 200 < n) :
    Calls Try.prog 7 #[.slice A n c, .slice D m d, .slice E p e] w fun e w' => e = .returned (.bool true) ∧ Below w.heap.size w w' := by
  have HL := Lib.hid (fun W => lives07 W)
  have d1 : (200 : Int) < n := by omega
  go_enter Try.func7, Try.ntmps7
  go_wp2_with (go_at_call 9; (with_reducible refine (HL.out _).mono ?_); rintro e w1 ⟨rfl, hb1⟩)
  go_ret
  exact ⟨rfl, hb1⟩
theorem sticks_lives2 (h1 : n ≤ 200) (h : 40 < m) :
    Calls Try.prog 7 #[.slice A n c, .slice D m d, .slice E p e] w fun e w' => e = .returned (.bool true) ∧ Below w.heap.size w w' := by
  have HL := Lib.hid (fun W => lives07 W)
  have d1 : decide ((200 : Int) < n) = false := by simp; omega
  have d2 : decide ((40 : Int) < m) = true := by simp; omega
  clear h1 h
  go_enter Try.func7, Try.ntmps7
  go_wp2_with (go_at_call 9; (with_reducible refine (HL.out _).mono ?_); rintro e w1 ⟨rfl, hb1⟩)
  go_ret
  exact ⟨rfl, hb1⟩
theorem sticks_lives3 (h1 : n ≤ 200) (h2 : m ≤ 40) (h : 20 < p) :
    Calls Try.prog 7 #[.slice A n c, .slice D m d, .slice E p e] w fun e w' => e = .returned (.bool true) ∧ Below w.heap.size w w' := by
  have HL := Lib.hid (fun W => lives07 W)
  have d1 : decide ((200 : Int) < n) = false := by simp; omega
  have d2 : decide ((40 : Int) < m) = false := by simp; omega
  have d3 : decide ((20 : Int) < p) = true := by simp; omega
  clear h1 h h2
  go_enter Try.func7, Try.ntmps7
  go_wp2_with (go_at_call 9; (with_reducible refine (HL.out _).mono ?_); rintro e w1 ⟨rfl, hb1⟩)
  go_ret
  exact ⟨rfl, hb1⟩
end
/-- A fresh source of the document is made, and one ask is done. -/
def StickG (B b : Nat) (w : World) (bs : List Int) (s t : List Int × Int) (x y : Option Value) (W : World) : Prop :=
  (x = none ∧ y = none ∧ Below w.heap.size w W ∧ Src B W b s.1 s.2) ∨
  ((∃ mm L C, x = some (.pointer (some ⟨mm, 0, none⟩)) ∧ w.heap.size ≤ mm ∧ Go7 L B C b mm W s (bs, 0)) ∧ y = none ∧ Below w.heap.size w W) ∨
  (x ≠ none ∧ y ≠ none ∧ Chg (fun k => k = b) w W ∧ Src B W b t.1 t.2)
section
variable {B b : Nat} {w W : World} {bs : List Int} {s t : List Int × Int} {x y : Option Value}
theorem StickG.cell (h : StickG B b w bs s t x y W) {k o : Nat} {v : Value} (hc : w.cell? ⟨k, o, none⟩ = some v) (h1 : k ≠ b) : W.cell? ⟨k, o, none⟩ = some v := by
  rcases h with ⟨_, _, h, _⟩ | ⟨_, _, h⟩ | ⟨_, _, h, _⟩
  · exact cell_below h hc
  · exact cell_below h hc
  · exact h.cell hc h1
theorem StickG.fst (h : StickG B b w bs s t none y W) : y = none ∧ Below w.heap.size w W ∧ Src B W b s.1 s.2 := by
  rcases h with ⟨_, h⟩ | ⟨⟨_, _, _, h, _⟩, _⟩ | ⟨h, _⟩
  · exact h
  · cases h
  · exact absurd rfl h
theorem StickG.snd {v : Value} (h : StickG B b w bs s t (some v) none W) : (∃ mm L C, v = .pointer (some ⟨mm, 0, none⟩) ∧ w.heap.size ≤ mm ∧ Go7 L B C b mm W s (bs, 0)) ∧ Below w.heap.size w W := by
  rcases h with ⟨h, _⟩ | ⟨⟨mm, L, C, h, h2⟩, _, h3⟩ | ⟨_, h', _⟩
  · cases h
  · cases h; exact ⟨⟨mm, L, C, rfl, h2⟩, h3⟩
  · exact absurd rfl h'
theorem StickG.last {v : Value} (h : StickG B b w bs s t x (some v) W) : Chg (fun k => k = b) w W ∧ Src B W b t.1 t.2 := by
  rcases h with ⟨_, h, _⟩ | ⟨_, h, _⟩ | ⟨_, _, h⟩
  · cases h
  · cases h
  · exact h
end
theorem Chg.thenTwo {b mm : Nat} {w W W' : World} (h : Below w.heap.size w W) (hc : Chg (fun k => k = b ∨ k = mm) W W') (hm : w.heap.size ≤ mm) : Chg (fun k => k = b) w W' :=
  ⟨hc.os.trans h.os, hc.tape.trans h.tape, hc.output.trans h.output, Nat.le_trans h.size hc.size, fun i hi hn => (hc.block i (Nat.lt_of_lt_of_le hi h.size) (fun e => e.elim hn (fun e => by omega))).trans (h.block i hi)⟩
set_option maxRecDepth 100000 in
set_option maxHeartbeats 16000000 in
theorem sticks_walk (A : Option Addr) (n c : Nat) (bs : List Int) (D : Option Addr) (m d : Nat) (l : List AskV) (E : Option Addr) (p e : Nat) (l2 : List AskV) (w : World) (hr : Rds w 1 A n c (nums .u8 bs)) (hr2 : Rds w 5 D m d (asks l)) (hr3 : Rds w 5 E p e (asks l2)) (hq : ∀ q ∈ l, q.ok) (hb : U8s bs) (hn : n ≤ 200) (hm : m ≤ 40) (hp : p ≤ 20) :
    Calls Try.prog 7 #[.slice A n c, .slice D m d, .slice E p e] w fun e w' => e = .returned (.bool true) ∧ Below w.heap.size w w' := by
  have HL := Lib.hid (fun W => lives07 W)
  have d1 : decide ((200 : Int) < n) = false := by simp; omega
  have d2 : decide ((40 : Int) < m) = false := by simp; omega
  have d3 : decide ((20 : Int) < p) = false := by simp; omega
  have HN := Lib.hid (asks_len hr2)
  have HN3 := Lib.hid (asks_len hr3)
  have HNB : Hid (bs.length = n) := rds_len hr
  have HQ := Lib.hid hq
  have HU := Lib.hid hb
  have HR := Lib.hid (srcRead A n c bs w hr (by omega))
  have HRR := Lib.hid (fun (W : World) (h : Below w.heap.size w W) => refRead A n c bs W (hr.below h) (by omega))
  clear hq hb
  go_enter Try.func7, Try.ntmps7
  go_wp2_with (go_at_call 20; (with_reducible refine HR.out.mono ?_); rintro e w1 ⟨b, rfl, hbk, hb1, hs1⟩)
  have hbl : b < w1.heap.size := hs1.made.lt
  go_loopw [31] (fun iv wr => ∃ (k : Nat) (st : List Int × Int), k ≤ m ∧ iv = .int .i64 k ∧ Src w1.heap.size wr b st.1 st.2 ∧ Chg (fun k => k = b) w1 wr ∧ Below w.heap.size w wr ∧ Hid (StOk st)) (fun iv _ => m - (intOf iv).toNat)
  case atStart => exact ⟨0, (bs, 0), by omega, rfl, hs1, Chg.refl _ _, hb1, ⟨HU.out, by show bs.length ≤ 1000000; rw [HNB.out]; omega, fun h => absurd rfl h⟩⟩
  case round =>
    obtain ⟨k, st, hk, rfl, hsr, hch, hBr, HS⟩ := hrel
    by_cases hlt : k < m
    · have hkx : k < l.length := by rw [HN.out]; exact hlt
      obtain ⟨ad, rfl⟩ := hr2.some_ (by omega)
      have ha := ask_read (hr2.below hBr) k l[k] (List.getElem?_eq_getElem hkx)
      have HQK := Lib.hid (HQ.out l[k] (List.getElem_mem hkx))
      generalize l[k] = q at ha HQK
      obtain ⟨qk, qa, qd, qn, qc⟩ := q
      obtain ⟨c0, c1, c2, c3, c4⟩ := ha
      simp only at c0 c1 c2 c3 c4
      clear hkx
      go_wp2
      obtain ⟨W1, hW1⟩ : ∃ W1, W1 = wr.alloc (.cells #[.int .i64 qk, .int .i64 qa, .int .i64 qd, .int .u64 qn, .int .i64 qc] (42 : Nat)) := ⟨_, rfl⟩
      have hal : Below wr.heap.size wr W1 := by rw [hW1]; exact below_al (Below.refl _ _) _
      have x0 : W1.cell? ⟨wr.heap.size, 0, none⟩ = some (.int .i64 qk) := by rw [hW1]; go_simp
      have x1 : W1.cell? ⟨wr.heap.size, 1, none⟩ = some (.int .i64 qa) := by rw [hW1]; go_simp
      have x2 : W1.cell? ⟨wr.heap.size, 2, none⟩ = some (.int .i64 qd) := by rw [hW1]; go_simp
      have x3 : W1.cell? ⟨wr.heap.size, 3, none⟩ = some (.int .u64 qn) := by rw [hW1]; go_simp
      have x4 : W1.cell? ⟨wr.heap.size, 4, none⟩ = some (.int .i64 qc) := by rw [hW1]; go_simp
      rw [← hW1]
      have hbw : Below w.heap.size w W1 := below_then hBr hBr.size hal
      have hsz1 := hch.size
      have hsz2 := hal.size
      have hnb : wr.heap.size ≠ b := by omega
      obtain ⟨s1, hs1'⟩ : ∃ s1, s1 = askSt ⟨qk, qa, qd, qn, qc⟩ st := ⟨_, rfl⟩
      have HS1 : Hid (StOk s1) := by show StOk _; rw [hs1']; exact stOk_ask HS.out _
      have HA : Hid (askSt ⟨qk, qa, qd, qn, qc⟩ st = s1) := hs1'.symm
      have hss := hsr.below hal
      clear hs1' hW1 c0 c1 c2 c3 c4
      obtain ⟨G, hG⟩ : ∃ G : Option Value → Option Value → World → Prop, ∀ x y W, G x y W = StickG w1.heap.size b W1 bs st s1 x y W := ⟨_, fun _ _ _ => rfl⟩
      obtain ⟨S_, hS_⟩ : ∃ S_ : World → World → Prop, S_ = (fun _ _ => True) := ⟨_, rfl⟩
      have hR_ : ∀ W, S_ W W := by intro W; rw [hS_]; exact trivial
      obtain ⟨T, hT⟩ : ∃ T : Nat → FactS S_, ∀ t_, T t_ = ([FactS.eq (.pointer (some ⟨b, 0, none⟩)), FactS.eq (.slice A n c), FactS.any, FactS.eq (.agg #[.int .i64 qk, .int .i64 qa, .int .i64 qd, .int .u64 qn, .int .i64 qc]), FactS.any] : List (FactS S_)).getD t_ FactS.any := ⟨_, fun _ => rfl⟩
      have hP_ : ∀ i_ v_ (y_ : Nat → Option Value) W_, ([2, 4].contains i_) = false → G (y_ 2) (y_ 4) W_ → G (updY y_ i_ v_ 2) (updY y_ i_ v_ 4) W_ := by
        intro i_ v_ y_ W_ hi_ h_
        simp only [List.contains_cons, List.contains_nil, Bool.or_false, Bool.or_eq_false_iff, beq_eq_false_iff_ne, ne_eq] at hi_
        obtain ⟨i2_, i4_⟩ := hi_
        rw [updY_ne y_ i_ v_ i2_, updY_ne y_ i_ v_ i4_]
        exact h_
      refine region_tabJ [(0, 35), (1, 36), (2, 37), (3, 38), (4, 39)] S_ T (fun y_ W_ => G (y_ 2) (y_ 4) W_) (by kernel_rfl) (by kernel_rfl) (by kernel_rfl) (by kernel_rfl) (by kernel_rfl) ?_ ?_ ?_
      · skip
        show G none none _
        rw [hG]
        exact .inl ⟨rfl, rfl, below_dr (Below.refl _ _) _, hss.below (below_dr (Below.refl _ _) _)⟩
      · skip
        refine stepsAll_cons (k := 0) ?_ ?_
        · intro fa fx fW fy hF hN hJ hE K fK
          have hJ : G (fy 2) (fy 4) fW := hJ
          have ev7 : fa.tmps[7]?.getD undef = .pointer (some ⟨b, 0, none⟩) := hF.eo 7 (by kernel_rfl)
          refine wpOp_val rfl (wanted_none rfl) ?_ (fK (.pointer (some ⟨b, 0, none⟩)) fW (hR_ fW) (by rw [hT]; exact rfl) (hP_ 0 _ fy fW rfl hJ))
          clear fK hE hF hJ hN
          go_simp
        refine stepsAll_cons (k := 1) ?_ ?_
        · intro fa fx fW fy hF hN hJ hE K fK
          have hJ : G (fy 2) (fy 4) fW := hJ
          have ev0 : fa.tmps[0]?.getD undef = .slice A n c := hF.eo 0 (by kernel_rfl)
          refine wpOp_val rfl (wanted_none rfl) ?_ (fK (.slice A n c) fW (hR_ fW) (by rw [hT]; exact rfl) (hP_ 1 _ fy fW rfl hJ))
          clear fK hE hF hJ hN
          go_simp
        refine stepsAll_cons (k := 2) ?_ ?_
        · intro fa fx fW fy hF hN hJ hE K fK
          have hJ : G (fy 2) (fy 4) fW := hJ
          have q1 : fx 1 = .slice A n c := by have q := (hE ⟨1, .data⟩ (by simp) rfl).2; rw [hT] at q; exact q
          have ev36 : fa.tmps[36]?.getD undef = .slice A n c := (hF.ev 1 36 (by kernel_rfl)).trans q1
          refine wpOp_call rfl (wanted_none rfl) (by go_simp; exact ⟨rfl, rfl⟩) ?_
          have hJ2 := hJ
          rw [hG, hN] at hJ2
          obtain ⟨hy, hb6, hs6⟩ := hJ2.fst
          refine (HRR.out fW (below_then hbw hbw.size hb6)).mono ?_
          rintro e' w' ⟨mm, rfl, hmk, hbb, hrs⟩
          have b1 : S_ fW w' := by rw [hS_]; trivial
          have hz6 := hb6.size
          have j1 : G (some (.pointer (some ⟨mm, 0, none⟩))) (fy 4) w' := by rw [hG, hy]; exact .inr (.inl ⟨⟨mm, fW.heap.size, w'.heap.size, rfl, by omega, ⟨hs6.below hbb, hrs, ⟨HS.out.1, HS.out.2.1⟩, ⟨HU.out, by show bs.length ≤ 1000000; rw [HNB.out]; omega⟩, by omega, hmk, by omega, hrs.err.lt, Nat.le_refl _⟩⟩, rfl, below_then hb6 hb6.size hbb⟩)
          exact ⟨_, rfl, fK (.pointer (some ⟨mm, 0, none⟩)) (w') (b1) (by rw [hT]; exact trivial) (j1)⟩
        refine stepsAll_cons (k := 3) ?_ ?_
        · intro fa fx fW fy hF hN hJ hE K fK
          have hJ : G (fy 2) (fy 4) fW := hJ
          have ev9 : fa.tmps[9]?.getD undef = .pointer (some ⟨wr.heap.size, 0, none⟩) := hF.eo 9 (by kernel_rfl)
          have hJ2 := hJ
          rw [hG] at hJ2
          have y0 := hJ2.cell x0 hnb
          have y1 := hJ2.cell x1 hnb
          have y2 := hJ2.cell x2 hnb
          have y3 := hJ2.cell x3 hnb
          have y4 := hJ2.cell x4 hnb
          clear hJ2
          refine wpOp_val rfl (wanted_none rfl) ?_ (fK (.agg #[.int .i64 qk, .int .i64 qa, .int .i64 qd, .int .u64 qn, .int .i64 qc]) fW (hR_ fW) (by rw [hT]; exact rfl) (hP_ 3 _ fy fW rfl hJ))
          clear fK hE hF hJ hN
          go_simp
        refine stepsAll_cons (k := 4) ?_ ?_
        · intro fa fx fW fy hF hN hJ hE K fK
          have hJ : G (fy 2) (fy 4) fW := hJ
          have q0 : fx 0 = .pointer (some ⟨b, 0, none⟩) := by have q := (hE ⟨0, .data⟩ (by simp) rfl).2; rw [hT] at q; exact q
          have q2 : (FactS.any : FactS S_).p (fx 2) fW := by have q := (hE ⟨2, .data⟩ (by simp) rfl).2; rw [hT] at q; exact q
          have y2 : fy 2 = some (fx 2) := (hE ⟨2, .data⟩ (by simp) rfl).1
          have q3 : fx 3 = .agg #[.int .i64 qk, .int .i64 qa, .int .i64 qd, .int .u64 qn, .int .i64 qc] := by have q := (hE ⟨3, .data⟩ (by simp) rfl).2; rw [hT] at q; exact q
          have ev35 : fa.tmps[35]?.getD undef = .pointer (some ⟨b, 0, none⟩) := (hF.ev 0 35 (by kernel_rfl)).trans q0
          have ev37 : fa.tmps[37]?.getD undef = fx 2 := hF.ev 2 37 (by kernel_rfl)
          have ev38 : fa.tmps[38]?.getD undef = .agg #[.int .i64 qk, .int .i64 qa, .int .i64 qd, .int .u64 qn, .int .i64 qc] := (hF.ev 3 38 (by kernel_rfl)).trans q3
          refine wpOp_call rfl (wanted_none rfl) (by go_simp; exact ⟨rfl, rfl⟩) ?_
          rw [hG, y2, hN] at hJ
          obtain ⟨⟨mm, L, C, ev, hmw, hg7⟩, hb6⟩ := hJ.snd
          rw [ev]
          refine (lawGet ⟨qk, qa, qd, qn, qc⟩ b mm HQK.out st (bs, 0) fW hg7).mono ?_
          rintro e' w' ⟨t, rfl, _, hbb⟩
          rw [HA.out] at hbb
          have b1 : S_ fW w' := by rw [hS_]; trivial
          have j1 : G (fy 2) (some (.bool t)) w' := by rw [hG, y2]; exact .inr (.inr ⟨by simp, by simp, Chg.thenTwo hb6 hbb.chg hmw, hbb.src⟩)
          exact ⟨_, rfl, fK (.bool t) (w') (b1) (by rw [hT]; exact trivial) (j1)⟩
        exact stepsAll_nil
      intro fa fx fW fy hF hJ0 hx
      have y2 : fy 2 = some (fx 2) := (hx 2 (by decide)).1
      have y4 : fy 4 = some (fx 4) := (hx 4 (by decide)).1
      have hJ : G (fy 2) (fy 4) fW := hJ0
      clear hJ0
      rw [y2, y4] at hJ
      have q4 : (FactS.any : FactS S_).p (fx 4) fW := by have q := (hx 4 (by decide)).2; rw [hT] at q; exact q
      have ev39 : fa.tmps[39]?.getD undef = fx 4 := hF.ev 4 39 (by kernel_rfl)
      rw [hF.eq]
      clear hF hx hT T hP_ hR_ y2 y4
      simp only [putAll, Act.put, List.setIfInBounds_toArray, List.set_cons_zero, List.set_cons_succ, ]
      rw [hG] at hJ
      obtain ⟨hc9, hs9⟩ := hJ.last
      have hB9 : Below w.heap.size w fW := hc9.toBelow hbw hbw.size (fun k hk => by omega)
      go_wp2
      refine ⟨⟨k + 1, s1, by omega, by go_num, hs9, (hch.trans (.of_below hal)).trans hc9, hB9, HS1.out⟩, by simp [intOf]; omega⟩
    · obtain ⟨st1, er⟩ := st
      have HE := Lib.hid (srcErr b er st1 wr hsr)
      by_cases h0 : er = 0
      · subst h0
        go_wp2_with (first
          | (go_at_call 23; (with_reducible refine HE.out.mono ?_); rintro e w3 ⟨rfl, rfl⟩)
          | (go_at_call 9; (with_reducible refine (HL.out _).mono ?_); rintro e w4 ⟨rfl, hb4⟩))
        go_ret
        exact ⟨rfl, below_then hBr hBr.size hb4⟩
      · have hx0 : (er == 0) = false := by simpa using h0
        have HST : Hid (st1 = []) := HS.out.2.2 h0
        have H0 : Hid (er ≠ 0) := h0
        clear h0
        go_wp2_with (go_at_call 23; (with_reducible refine HE.out.mono ?_); rintro e w3 ⟨rfl, rfl⟩)
        obtain ⟨W3, rfl⟩ : ∃ x, x = wr := ⟨_, rfl⟩
        go_loopw [48] (fun iv wr => ∃ k : Nat, k ≤ p ∧ iv = .int .i64 k ∧ Below W3.heap.size W3 wr) (fun iv _ => p - (intOf iv).toNat)
        case atStart => exact ⟨0, by omega, rfl, Below.refl _ _⟩
        case round =>
          obtain ⟨j, hj, rfl, hb3⟩ := hrel
          have hsj := hsr.below hb3
          by_cases hlt2 : j < p
          · have hjx : j < l2.length := by rw [HN3.out]; exact hlt2
            obtain ⟨ad, rfl⟩ := hr3.some_ (by omega)
            have ha := ask_read ((hr3.below hBr).below hb3) j l2[j] (List.getElem?_eq_getElem hjx)
            generalize l2[j] = q at ha
            obtain ⟨qk, qa, qd, qn, qc⟩ := q
            obtain ⟨c0, c1, c2, c3, c4⟩ := ha
            simp only at c0 c1 c2 c3 c4
            clear hjx
            have hal : Below wr.heap.size wr (wr.alloc (.cells #[.int .i64 qk, .int .i64 qa, .int .i64 qd, .int .u64 qn, .int .i64 qc] 42)) := below_al (Below.refl _ _) _
            have x1 : (wr.alloc (.cells #[.int .i64 qk, .int .i64 qa, .int .i64 qd, .int .u64 qn, .int .i64 qc] 42)).cell? ⟨wr.heap.size, 1, none⟩ = some (.int .i64 qa) := by go_simp
            have x2 : (wr.alloc (.cells #[.int .i64 qk, .int .i64 qa, .int .i64 qd, .int .u64 qn, .int .i64 qc] 42)).cell? ⟨wr.heap.size, 2, none⟩ = some (.int .i64 qd) := by go_simp
            have x4 : (wr.alloc (.cells #[.int .i64 qk, .int .i64 qa, .int .i64 qd, .int .u64 qn, .int .i64 qc] 42)).cell? ⟨wr.heap.size, 4, none⟩ = some (.int .i64 qc) := by go_simp
            have HS5 := Lib.hid (qNum b er st1 H0.out qn _ (hsj.below hal))
            have HSJ := Lib.hid (hsj.below hal)
            have HX := Lib.hid (And.intro x1 (And.intro x2 x4))
            have HAL := Lib.hid hal
            clear x1 x2 x4 hal
            go_wp2_with (first
              | ((with_reducible refine HS5.out.mono ?_); rintro e w4 ⟨rfl, B4⟩; have k1 := cell_below B4 HX.out.1; have k2 := cell_below B4 HX.out.2.1; have s4 := HSJ.out.below B4; have HI := Lib.hid (qInt b er st1 H0.out qa qd w4 s4))
              | ((with_reducible refine HI.out.mono ?_); rintro e w5 ⟨rfl, hb5⟩; have B5 := below_tr B4 hb5; have k3 := cell_below hb5 k2; have s5 := s4.below hb5; have HT := Lib.hid (qText b er st1 H0.out qd w5 s5))
              | ((with_reducible refine HT.out.mono ?_); rintro e w6 ⟨rfl, hb6⟩; have B6 := below_tr B5 hb6; have s6 := s5.below hb6; have HF := Lib.hid (qFlag b er st1 H0.out w6 s6))
              | ((with_reducible refine HF.out.mono ?_); rintro e w7 ⟨rfl, hb7⟩; have B7 := below_tr B6 hb7; have k5 := cell_below B7 HX.out.2.2; have k6 := cell_below B7 HX.out.1; have k7 := cell_below B7 HX.out.2.1; have s7 := s6.below hb7; have HG := Lib.hid (qInts b er st1 H0.out qc qa qd w7 s7))
              | ((with_reducible refine HG.out.mono ?_); rintro e w8 ⟨rfl, hb8⟩; have B8 := below_tr B7 hb8; have s8 := s7.below hb8; have HY := Lib.hid (qByte b er st1 H0.out w8 s8))
              | ((with_reducible refine HY.out.mono ?_); rintro e w9 ⟨rfl, hb9⟩; have B9 := below_tr B8 hb9))
            go_roundw
            case rel => exact ⟨j + 1, by omega, by go_num, below_tr (below_tr hb3 HAL.out) B9⟩
            case measure => simp only [intOf]; omega
          · have hen : endE st1 er = er := by unfold endE; rw [if_pos H0.out]
            have HE1 := Lib.hid (srcErr b er st1 wr hsj)
            have HE2 := srcEnd b er st1 wr hsj
            rw [hen] at HE2
            have HE2 := Lib.hid HE2
            have HE3 := srcLeft b er st1 wr hsj
            rw [HST.out] at HE3
            have HE3 := Lib.hid HE3
            clear hen
            go_wp2_with (first
              | (go_at_call 23; (with_reducible refine HE1.out.mono ?_); rintro e w3 ⟨rfl, rfl⟩)
              | (go_at_call 29; (with_reducible refine HE2.out.mono ?_); rintro e w3 ⟨rfl, rfl⟩)
              | (go_at_call 22; (with_reducible refine HE3.out.mono ?_); rintro e w3 ⟨rfl, rfl⟩)
              | (go_at_call 9; (with_reducible refine (HL.out _).mono ?_); rintro e w4 ⟨rfl, hb4⟩))
            go_ret
            exact ⟨rfl, below_then (below_then hBr hBr.size hb3) (Nat.le_trans hBr.size hb3.size) hb4⟩
end Go.Proofs.Ytdhckbpfkdekmaa
