/- The law CodeGets, walked. -/
import Derived.Test.YtdhckbpfkdekmaaAsk
namespace Go.Proofs.Ytdhckbpfkdekmaa
open Go.RowKit
/-- One ask is done, and what is read behind it. -/
def OnceB (L B C : Nat) (b m : Nat) (w : World) (s t : List Int × Int) (x y z u : Option Value) (W : World) : Prop :=
  (x = none ∧ y = none ∧ z = none ∧ u = none ∧ Both L B C b m w W s s) ∨ (x ≠ none ∧ Both L B C b m w W t t)
section
variable {L B C : Nat} {b m : Nat} {w W : World} {s t : List Int × Int} {x y z u : Option Value}
theorem OnceB.cell (h : OnceB L B C b m w s t x y z u W) {k o : Nat} {v : Value} (hc : w.cell? ⟨k, o, none⟩ = some v) (h1 : k ≠ b) (h2 : k ≠ m) : W.cell? ⟨k, o, none⟩ = some v := by
  rcases h with ⟨_, _, _, _, h⟩ | ⟨_, h⟩ <;> exact h.chg.cell hc (fun h => h.elim h1 h2)
theorem OnceB.fst (h : OnceB L B C b m w s t none y z u W) : y = none ∧ z = none ∧ u = none ∧ Both L B C b m w W s s := by
  rcases h with ⟨_, h2, h3, h4, h⟩ | ⟨h1, _⟩
  · exact ⟨h2, h3, h4, h⟩
  · exact absurd rfl h1
theorem OnceB.d1 {v : Value} (h : OnceB L B C b m w s t (some v) y z u W) : Both L B C b m w W t t := by
  rcases h with ⟨h, _⟩ | ⟨_, h⟩
  · cases h
  · exact h
theorem OnceB.d2 {v : Value} (h : OnceB L B C b m w s t x (some v) z u W) : x ≠ none ∧ Both L B C b m w W t t := by
  rcases h with ⟨_, h, _⟩ | h
  · cases h
  · exact h
theorem OnceB.d3 {v : Value} (h : OnceB L B C b m w s t x y (some v) u W) : x ≠ none ∧ Both L B C b m w W t t := by
  rcases h with ⟨_, _, h, _⟩ | h
  · cases h
  · exact h
theorem OnceB.d4 {v : Value} (h : OnceB L B C b m w s t x y z (some v) W) : x ≠ none ∧ Both L B C b m w W t t := by
  rcases h with ⟨_, _, _, h, _⟩ | h
  · cases h
  · exact h
end
theorem gets_lives1 (A : Option Addr) (n c : Nat) (D : Option Addr) (m d : Nat) (w : World) (h : 300 < n) :
    Calls Try.prog 6 #[.slice A n c, .slice D m d] w fun e w' => e = .returned (.bool true) ∧ Below w.heap.size w w' := by
  have HL := Lib.hid (fun W => lives07 W)
  have d1 : (300 : Int) < n := by omega
  go_enter Try.func6, Try.ntmps6
  go_wp2_with (go_at_call 9; (with_reducible refine (HL.out _).mono ?_); rintro e w1 ⟨rfl, hb1⟩)
  go_ret
  exact ⟨rfl, hb1⟩
theorem gets_lives2 (A : Option Addr) (n c : Nat) (D : Option Addr) (m d : Nat) (w : World) (h1 : n ≤ 300) (h : 60 < m) :
    Calls Try.prog 6 #[.slice A n c, .slice D m d] w fun e w' => e = .returned (.bool true) ∧ Below w.heap.size w w' := by
  have HL := Lib.hid (fun W => lives07 W)
  have d1 : decide ((300 : Int) < n) = false := by simp; omega
  have d2 : decide ((60 : Int) < m) = true := by simp; omega
  clear h1 h
  go_enter Try.func6, Try.ntmps6
  go_wp2_with (go_at_call 9; (with_reducible refine (HL.out _).mono ?_); rintro e w1 ⟨rfl, hb1⟩)
  go_ret
  exact ⟨rfl, hb1⟩
set_option maxRecDepth 100000 in
set_option maxHeartbeats 16000000 in
theorem gets_walk (A : Option Addr) (n c : Nat) (bs : List Int) (D : Option Addr) (m d : Nat) (l : List AskV) (w : World) (hr : Rds w 1 A n c (nums .u8 bs)) (hr2 : Rds w 5 D m d (asks l)) (hq : ∀ q ∈ l, q.ok) (hb : U8s bs) (hn : n ≤ 300) (hm : m ≤ 60) :
    Calls Try.prog 6 #[.slice A n c, .slice D m d] w fun e w' => e = .returned (.bool true) ∧ Below w.heap.size w w' := by
  have HL := Lib.hid (fun W => lives07 W)
  have d1 : decide ((300 : Int) < n) = false := by simp; omega
  have d2 : decide ((60 : Int) < m) = false := by simp; omega
  have HN := Lib.hid (asks_len hr2)
  have HNB : Hid (bs.length = n) := rds_len hr
  have HQ := Lib.hid hq
  have HU := Lib.hid hb
  have HR := Lib.hid (srcRead A n c bs w hr (by omega))
  clear hq hb
  go_enter Try.func6, Try.ntmps6
  go_wp2_with (first
    | (go_at_call 20; (with_reducible refine HR.out.mono ?_); rintro e w1 ⟨b, rfl, hbk, hb1, hs1⟩; have HR2 := Lib.hid (refRead A n c bs w1 (hr.below hb1) (by omega)))
    | (go_at_call 30; (with_reducible refine HR2.out.mono ?_); rintro e w2 ⟨mm, rfl, hmk, hb2, hs2⟩))
  have hbl : b < w1.heap.size := hs1.made.lt
  have hmc : mm < w2.heap.size := hs2.err.lt
  have hB0 : Below w.heap.size w w2 := below_tr hb1 hb2
  go_loopw [24] (fun iv wr => ∃ (k : Nat) (st : List Int × Int), k ≤ m ∧ iv = .int .i64 k ∧ Both w1.heap.size w1.heap.size w2.heap.size b mm w2 wr st st ∧ Below w.heap.size w wr ∧ Hid (StOk st)) (fun iv _ => m - (intOf iv).toNat)
  case atStart => exact ⟨0, (bs, 0), by omega, rfl, ⟨Chg.refl _ _, hs1.below hb2, hs2⟩, hB0, ⟨HU.out, by show bs.length ≤ 1000000; rw [HNB.out]; omega, fun h => absurd rfl h⟩⟩
  case round =>
    obtain ⟨k, st, hk, rfl, hbo, hBr, HS⟩ := hrel
    by_cases hlt : k < m
    · have hkx : k < l.length := by rw [HN.out]; exact hlt
      obtain ⟨ad, rfl⟩ := hr2.some_ (by omega)
      have ha := ask_read (hr2.below hBr) k l[k] (List.getElem?_eq_getElem hkx)
      have HQK := Lib.hid (HQ.out l[k] (List.getElem_mem hkx))
      generalize l[k] = q at ha HQK
      obtain ⟨qk, qa, qd, qn, qc⟩ := q
      obtain ⟨c0, c1, c2, c3, c4⟩ := ha
      simp only at c0 c1 c2 c3 c4
      clear hkx
      go_wp2
      obtain ⟨W1, hW1⟩ : ∃ W1, W1 = wr.alloc (.cells #[.int .i64 qk, .int .i64 qa, .int .i64 qd, .int .u64 qn, .int .i64 qc] (42 : Nat)) := ⟨_, rfl⟩
      have hal : Below wr.heap.size wr W1 := by rw [hW1]; exact below_al (Below.refl _ _) _
      have x0 : W1.cell? ⟨wr.heap.size, 0, none⟩ = some (.int .i64 qk) := by rw [hW1]; go_simp
      have x1 : W1.cell? ⟨wr.heap.size, 1, none⟩ = some (.int .i64 qa) := by rw [hW1]; go_simp
      have x2 : W1.cell? ⟨wr.heap.size, 2, none⟩ = some (.int .i64 qd) := by rw [hW1]; go_simp
      have x3 : W1.cell? ⟨wr.heap.size, 3, none⟩ = some (.int .u64 qn) := by rw [hW1]; go_simp
      have x4 : W1.cell? ⟨wr.heap.size, 4, none⟩ = some (.int .i64 qc) := by rw [hW1]; go_simp
      rw [← hW1]
      have hbo1 := hbo.below hal
      have hwr := hbo.chg.size
      have hnb : wr.heap.size ≠ b := by have := hb2.size; omega
      have hnm : wr.heap.size ≠ mm := by omega
      obtain ⟨s1, hs1'⟩ : ∃ s1, s1 = askSt ⟨qk, qa, qd, qn, qc⟩ st := ⟨_, rfl⟩
      have HS1 : Hid (StOk s1) := by show StOk _; rw [hs1']; exact stOk_ask HS.out _
      have HG := Lib.hid (fun (W : World) (h : Both w1.heap.size w1.heap.size w2.heap.size b mm W1 W st st) => lawGet ⟨qk, qa, qd, qn, qc⟩ b mm HQK.out st st W (h.go7 ⟨HS.out.1, HS.out.2.1⟩ ⟨HS.out.1, HS.out.2.1⟩ hbl hmk (Nat.le_refl _) hmc (by have h1 := h.chg.size; have h2 := hal.size; omega)))
      have HA : Hid (askSt ⟨qk, qa, qd, qn, qc⟩ st = s1) := hs1'.symm
      clear hs1' hW1 c0 c1 c2 c3 c4
      obtain ⟨bs1, er1⟩ := s1
      obtain ⟨G, hG⟩ : ∃ G : Option Value → Option Value → Option Value → Option Value → World → Prop, ∀ x y z u W, G x y z u W = OnceB w1.heap.size w1.heap.size w2.heap.size b mm W1 st (bs1, er1) x y z u W := ⟨_, fun _ _ _ _ _ => rfl⟩
      obtain ⟨S_, hS_⟩ : ∃ S_ : World → World → Prop, S_ = (fun _ _ => True) := ⟨_, rfl⟩
      have hR_ : ∀ W, S_ W W := by intro W; rw [hS_]; exact trivial
      obtain ⟨T, hT⟩ : ∃ T : Nat → FactS S_, ∀ t_, T t_ = ([FactS.eq (.pointer (some ⟨b, 0, none⟩)), FactS.eq (.pointer (some ⟨mm, 0, none⟩)), FactS.eq (.agg #[.int .i64 qk, .int .i64 qa, .int .i64 qd, .int .u64 qn, .int .i64 qc]), FactS.eq (.bool true), FactS.eq (.bool false), FactS.eq (.bool false), FactS.eq (.pointer (some ⟨b, 0, none⟩)), FactS.eq (.int .i64 er1), FactS.eq (.pointer (some ⟨mm, 0, none⟩)), FactS.eq (.pointer (some ⟨mm, 0, none⟩)), FactS.eq (.pointer (some ⟨mm, 1, none⟩)), FactS.eq (.int .i64 er1), FactS.eq (.bool false), FactS.eq (.bool false), FactS.eq (.bool false), FactS.eq (.pointer (some ⟨b, 0, none⟩)), FactS.eq (.int .i64 bs1.length), FactS.eq (.pointer (some ⟨mm, 0, none⟩)), FactS.eq (.pointer (some ⟨mm, 0, none⟩)), FactS.eq (.pointer (some ⟨mm, 0, none⟩)), FactS.val (fun u => ∃ A c, u = .slice A bs1.length c), FactS.eq (.int .i64 bs1.length), FactS.eq (.bool false), FactS.eq (.bool false)] : List (FactS S_)).getD t_ FactS.any := ⟨_, fun _ => rfl⟩
      have hP_ : ∀ i_ v_ (y_ : Nat → Option Value) W_, ([3, 5, 7, 14].contains i_) = false → G (y_ 3) (y_ 5) (y_ 7) (y_ 14) W_ → G (updY y_ i_ v_ 3) (updY y_ i_ v_ 5) (updY y_ i_ v_ 7) (updY y_ i_ v_ 14) W_ := by
        intro i_ v_ y_ W_ hi_ h_
        simp only [List.contains_cons, List.contains_nil, Bool.or_false, Bool.or_eq_false_iff, beq_eq_false_iff_ne, ne_eq] at hi_
        obtain ⟨i3_, i5_, i7_, i14_⟩ := hi_
        rw [updY_ne y_ i_ v_ i3_, updY_ne y_ i_ v_ i5_, updY_ne y_ i_ v_ i7_, updY_ne y_ i_ v_ i14_]
        exact h_
      refine region_tabJ [(0, 28), (1, 29), (2, 30), (3, 31), (4, 32), (5, 33), (6, 34), (7, 35), (8, 36), (9, 37), (10, 38), (11, 39), (12, 40), (13, 41), (14, 42), (15, 43), (16, 44), (17, 45), (18, 46), (19, 47), (20, 48), (21, 49), (22, 50), (23, 51)] S_ T (fun y_ W_ => G (y_ 3) (y_ 5) (y_ 7) (y_ 14) W_) (by kernel_rfl) (by kernel_rfl) (by kernel_rfl) (by kernel_rfl) (by kernel_rfl) ?_ ?_ ?_
      · skip
        show G none none none none _
        rw [hG]
        exact .inl ⟨rfl, rfl, rfl, rfl, Both.below ⟨Chg.refl _ _, hbo1.src, hbo1.ref⟩ (below_dr (Below.refl _ _) _)⟩
      · skip
        refine stepsAll_cons (k := 0) ?_ ?_
        · intro fa fx fW fy hF hN hJ hE K fK
          have hJ : G (fy 3) (fy 5) (fy 7) (fy 14) fW := hJ
          have ev5 : fa.tmps[5]?.getD undef = .pointer (some ⟨b, 0, none⟩) := hF.eo 5 (by kernel_rfl)
          refine wpOp_val rfl (wanted_none rfl) ?_ (fK (.pointer (some ⟨b, 0, none⟩)) fW (hR_ fW) (by rw [hT]; exact rfl) (hP_ 0 _ fy fW rfl hJ))
          clear fK hE hF hJ hN
          go_simp
        refine stepsAll_cons (k := 1) ?_ ?_
        · intro fa fx fW fy hF hN hJ hE K fK
          have hJ : G (fy 3) (fy 5) (fy 7) (fy 14) fW := hJ
          have ev6 : fa.tmps[6]?.getD undef = .pointer (some ⟨mm, 0, none⟩) := hF.eo 6 (by kernel_rfl)
          refine wpOp_val rfl (wanted_none rfl) ?_ (fK (.pointer (some ⟨mm, 0, none⟩)) fW (hR_ fW) (by rw [hT]; exact rfl) (hP_ 1 _ fy fW rfl hJ))
          clear fK hE hF hJ hN
          go_simp
        refine stepsAll_cons (k := 2) ?_ ?_
        · intro fa fx fW fy hF hN hJ hE K fK
          have hJ : G (fy 3) (fy 5) (fy 7) (fy 14) fW := hJ
          have ev8 : fa.tmps[8]?.getD undef = .pointer (some ⟨wr.heap.size, 0, none⟩) := hF.eo 8 (by kernel_rfl)
          have hJ2 := hJ
          rw [hG] at hJ2
          have y0 := hJ2.cell x0 hnb hnm
          have y1 := hJ2.cell x1 hnb hnm
          have y2 := hJ2.cell x2 hnb hnm
          have y3 := hJ2.cell x3 hnb hnm
          have y4 := hJ2.cell x4 hnb hnm
          clear hJ2
          refine wpOp_val rfl (wanted_none rfl) ?_ (fK (.agg #[.int .i64 qk, .int .i64 qa, .int .i64 qd, .int .u64 qn, .int .i64 qc]) fW (hR_ fW) (by rw [hT]; exact rfl) (hP_ 2 _ fy fW rfl hJ))
          clear fK hE hF hJ hN
          go_simp
        refine stepsAll_cons (k := 3) ?_ ?_
        · intro fa fx fW fy hF hN hJ hE K fK
          have hJ : G (fy 3) (fy 5) (fy 7) (fy 14) fW := hJ
          have q0 : fx 0 = .pointer (some ⟨b, 0, none⟩) := by have q := (hE ⟨0, .data⟩ (by simp) rfl).2; rw [hT] at q; exact q
          have q1 : fx 1 = .pointer (some ⟨mm, 0, none⟩) := by have q := (hE ⟨1, .data⟩ (by simp) rfl).2; rw [hT] at q; exact q
          have q2 : fx 2 = .agg #[.int .i64 qk, .int .i64 qa, .int .i64 qd, .int .u64 qn, .int .i64 qc] := by have q := (hE ⟨2, .data⟩ (by simp) rfl).2; rw [hT] at q; exact q
          have ev28 : fa.tmps[28]?.getD undef = .pointer (some ⟨b, 0, none⟩) := (hF.ev 0 28 (by kernel_rfl)).trans q0
          have ev29 : fa.tmps[29]?.getD undef = .pointer (some ⟨mm, 0, none⟩) := (hF.ev 1 29 (by kernel_rfl)).trans q1
          have ev30 : fa.tmps[30]?.getD undef = .agg #[.int .i64 qk, .int .i64 qa, .int .i64 qd, .int .u64 qn, .int .i64 qc] := (hF.ev 2 30 (by kernel_rfl)).trans q2
          refine wpOp_call rfl (wanted_none rfl) (by go_simp; exact ⟨rfl, rfl⟩) ?_
          rw [hG, hN] at hJ
          obtain ⟨hy, hz, hu, hJ1⟩ := hJ.fst
          refine (HG.out fW hJ1).mono ?_
          rintro e' w' ⟨t, rfl, ht, hbb⟩
          obtain rfl := ht rfl
          rw [HA.out] at hbb
          have b1 : S_ fW w' := by rw [hS_]; trivial
          have j1 : G (some (.bool true)) (fy 5) (fy 7) (fy 14) w' := by rw [hG]; exact .inr ⟨by simp, ⟨hJ1.chg.trans hbb.chg, hbb.src, hbb.ref⟩⟩
          exact ⟨_, rfl, fK (.bool true) (w') (b1) (by rw [hT]; exact rfl) (j1)⟩
        refine stepsAll_cons (k := 4) ?_ ?_
        · intro fa fx fW fy hF hN hJ hE K fK
          have hJ : G (fy 3) (fy 5) (fy 7) (fy 14) fW := hJ
          have q3 : fx 3 = .bool true := by have q := (hE ⟨3, .data⟩ (by simp) rfl).2; rw [hT] at q; exact q
          have y3 : fy 3 = some (fx 3) := (hE ⟨3, .data⟩ (by simp) rfl).1
          have ev31 : fa.tmps[31]?.getD undef = .bool true := (hF.ev 3 31 (by kernel_rfl)).trans q3
          refine wpOp_val rfl (wanted_none rfl) ?_ (fK (.bool false) fW (hR_ fW) (by rw [hT]; exact rfl) (hP_ 4 _ fy fW rfl hJ))
          clear fK hE hF hJ hN
          go_simp
        refine stepsAll_cons (k := 5) ?_ ?_
        · intro fa fx fW fy hF hN hJ hE K fK
          have hJ : G (fy 3) (fy 5) (fy 7) (fy 14) fW := hJ
          have q3 : fx 3 = .bool true := by have q := (hE ⟨3, .chain⟩ (by simp) rfl).2; rw [hT] at q; exact q
          have y3 : fy 3 = some (fx 3) := (hE ⟨3, .chain⟩ (by simp) rfl).1
          have q4 : fx 4 = .bool false := by have q := (hE ⟨4, .data⟩ (by simp) rfl).2; rw [hT] at q; exact q
          have ev32 : fa.tmps[32]?.getD undef = .bool false := (hF.ev 4 32 (by kernel_rfl)).trans q4
          have j1 : G (fy 3) (some (.bool false)) (fy 7) (fy 14) fW := by rw [hG, y3] at hJ ⊢; exact .inr ⟨by simp, hJ.d1⟩
          refine wpOp_val rfl (wanted_none rfl) (by clear fK hE hF hJ hN; go_simp) (fK (.bool false) fW (hR_ fW) (by rw [hT]; exact rfl) j1)
        refine stepsAll_cons (k := 6) ?_ ?_
        · intro fa fx fW fy hF hN hJ hE K fK
          have hJ : G (fy 3) (fy 5) (fy 7) (fy 14) fW := hJ
          have q5 : fx 5 = .bool false := by have q := (hE ⟨5, .guard⟩ (by simp) rfl).2; rw [hT] at q; exact q
          have y5 : fy 5 = some (fx 5) := (hE ⟨5, .guard⟩ (by simp) rfl).1
          have ev5 : fa.tmps[5]?.getD undef = .pointer (some ⟨b, 0, none⟩) := hF.eo 5 (by kernel_rfl)
          refine wpOp_val rfl (wanted_not rfl (hF.yes 5 33 (by kernel_rfl) false q5)) ?_ (fK (.pointer (some ⟨b, 0, none⟩)) fW (hR_ fW) (by rw [hT]; exact rfl) (hP_ 6 _ fy fW rfl hJ))
          clear fK hE hF hJ hN
          go_simp
        refine stepsAll_cons (k := 7) ?_ ?_
        · intro fa fx fW fy hF hN hJ hE K fK
          have hJ : G (fy 3) (fy 5) (fy 7) (fy 14) fW := hJ
          have q5 : fx 5 = .bool false := by have q := (hE ⟨5, .chain⟩ (by simp) rfl).2; rw [hT] at q; exact q
          have y5 : fy 5 = some (fx 5) := (hE ⟨5, .chain⟩ (by simp) rfl).1
          have q6 : fx 6 = .pointer (some ⟨b, 0, none⟩) := by have q := (hE ⟨6, .data⟩ (by simp) rfl).2; rw [hT] at q; exact q
          have ev34 : fa.tmps[34]?.getD undef = .pointer (some ⟨b, 0, none⟩) := (hF.ev 6 34 (by kernel_rfl)).trans q6
          refine wpOp_call rfl (wanted_not rfl (hF.yes 5 33 (by kernel_rfl) false q5)) (by go_simp; exact ⟨rfl, rfl⟩) ?_
          rw [hG, y5] at hJ
          obtain ⟨hx, hJ1⟩ := hJ.d2
          refine (srcErr b er1 bs1 fW hJ1.src).mono ?_
          rintro e' w' ⟨rfl, rfl⟩
          have j1 : G (fy 3) (fy 5) (some (.int .i64 er1)) (fy 14) fW := by rw [hG]; exact .inr ⟨hx, hJ1⟩
          exact ⟨_, rfl, fK (.int .i64 er1) (fW) (hR_ fW) (by rw [hT]; exact rfl) (j1)⟩
        refine stepsAll_cons (k := 8) ?_ ?_
        · intro fa fx fW fy hF hN hJ hE K fK
          have hJ : G (fy 3) (fy 5) (fy 7) (fy 14) fW := hJ
          have q5 : fx 5 = .bool false := by have q := (hE ⟨5, .guard⟩ (by simp) rfl).2; rw [hT] at q; exact q
          have y5 : fy 5 = some (fx 5) := (hE ⟨5, .guard⟩ (by simp) rfl).1
          have ev6 : fa.tmps[6]?.getD undef = .pointer (some ⟨mm, 0, none⟩) := hF.eo 6 (by kernel_rfl)
          refine wpOp_val rfl (wanted_not rfl (hF.yes 5 33 (by kernel_rfl) false q5)) ?_ (fK (.pointer (some ⟨mm, 0, none⟩)) fW (hR_ fW) (by rw [hT]; exact rfl) (hP_ 8 _ fy fW rfl hJ))
          clear fK hE hF hJ hN
          go_simp
        refine stepsAll_cons (k := 9) ?_ ?_
        · intro fa fx fW fy hF hN hJ hE K fK
          have hJ : G (fy 3) (fy 5) (fy 7) (fy 14) fW := hJ
          have q5 : fx 5 = .bool false := by have q := (hE ⟨5, .guard⟩ (by simp) rfl).2; rw [hT] at q; exact q
          have y5 : fy 5 = some (fx 5) := (hE ⟨5, .guard⟩ (by simp) rfl).1
          have q8 : fx 8 = .pointer (some ⟨mm, 0, none⟩) := by have q := (hE ⟨8, .data⟩ (by simp) rfl).2; rw [hT] at q; exact q
          have ev36 : fa.tmps[36]?.getD undef = .pointer (some ⟨mm, 0, none⟩) := (hF.ev 8 36 (by kernel_rfl)).trans q8
          refine wpOp_val rfl (wanted_not rfl (hF.yes 5 33 (by kernel_rfl) false q5)) ?_ (fK (.pointer (some ⟨mm, 0, none⟩)) fW (hR_ fW) (by rw [hT]; exact rfl) (hP_ 9 _ fy fW rfl hJ))
          clear fK hE hF hJ hN
          go_simp
        refine stepsAll_cons (k := 10) ?_ ?_
        · intro fa fx fW fy hF hN hJ hE K fK
          have hJ : G (fy 3) (fy 5) (fy 7) (fy 14) fW := hJ
          have q5 : fx 5 = .bool false := by have q := (hE ⟨5, .guard⟩ (by simp) rfl).2; rw [hT] at q; exact q
          have y5 : fy 5 = some (fx 5) := (hE ⟨5, .guard⟩ (by simp) rfl).1
          have q9 : fx 9 = .pointer (some ⟨mm, 0, none⟩) := by have q := (hE ⟨9, .data⟩ (by simp) rfl).2; rw [hT] at q; exact q
          have ev37 : fa.tmps[37]?.getD undef = .pointer (some ⟨mm, 0, none⟩) := (hF.ev 9 37 (by kernel_rfl)).trans q9
          refine wpOp_val rfl (wanted_not rfl (hF.yes 5 33 (by kernel_rfl) false q5)) ?_ (fK (.pointer (some ⟨mm, 1, none⟩)) fW (hR_ fW) (by rw [hT]; exact rfl) (hP_ 10 _ fy fW rfl hJ))
          clear fK hE hF hJ hN
          go_simp
        refine stepsAll_cons (k := 11) ?_ ?_
        · intro fa fx fW fy hF hN hJ hE K fK
          have hJ : G (fy 3) (fy 5) (fy 7) (fy 14) fW := hJ
          have q5 : fx 5 = .bool false := by have q := (hE ⟨5, .guard⟩ (by simp) rfl).2; rw [hT] at q; exact q
          have y5 : fy 5 = some (fx 5) := (hE ⟨5, .guard⟩ (by simp) rfl).1
          have q10 : fx 10 = .pointer (some ⟨mm, 1, none⟩) := by have q := (hE ⟨10, .data⟩ (by simp) rfl).2; rw [hT] at q; exact q
          have ev38 : fa.tmps[38]?.getD undef = .pointer (some ⟨mm, 1, none⟩) := (hF.ev 10 38 (by kernel_rfl)).trans q10
          have hJ2 := hJ
          rw [hG, y5] at hJ2
          have y0 := hJ2.d2.2.ref.err.cell
          clear hJ2
          refine wpOp_val rfl (wanted_not rfl (hF.yes 5 33 (by kernel_rfl) false q5)) ?_ (fK (.int .i64 er1) fW (hR_ fW) (by rw [hT]; exact rfl) (hP_ 11 _ fy fW rfl hJ))
          clear fK hE hF hJ hN
          go_simp
        refine stepsAll_cons (k := 12) ?_ ?_
        · intro fa fx fW fy hF hN hJ hE K fK
          have hJ : G (fy 3) (fy 5) (fy 7) (fy 14) fW := hJ
          have q5 : fx 5 = .bool false := by have q := (hE ⟨5, .guard⟩ (by simp) rfl).2; rw [hT] at q; exact q
          have y5 : fy 5 = some (fx 5) := (hE ⟨5, .guard⟩ (by simp) rfl).1
          have q7 : fx 7 = .int .i64 er1 := by have q := (hE ⟨7, .data⟩ (by simp) rfl).2; rw [hT] at q; exact q
          have y7 : fy 7 = some (fx 7) := (hE ⟨7, .data⟩ (by simp) rfl).1
          have q11 : fx 11 = .int .i64 er1 := by have q := (hE ⟨11, .data⟩ (by simp) rfl).2; rw [hT] at q; exact q
          have ev35 : fa.tmps[35]?.getD undef = .int .i64 er1 := (hF.ev 7 35 (by kernel_rfl)).trans q7
          have ev39 : fa.tmps[39]?.getD undef = .int .i64 er1 := (hF.ev 11 39 (by kernel_rfl)).trans q11
          refine wpOp_val rfl (wanted_not rfl (hF.yes 5 33 (by kernel_rfl) false q5)) ?_ (fK (.bool false) fW (hR_ fW) (by rw [hT]; exact rfl) (hP_ 12 _ fy fW rfl hJ))
          clear fK hE hF hJ hN
          go_simp
        refine stepsAll_cons (k := 13) ?_ ?_
        · intro fa fx fW fy hF hN hJ hE K fK
          have hJ : G (fy 3) (fy 5) (fy 7) (fy 14) fW := hJ
          have q5 : fx 5 = .bool false := by have q := (hE ⟨5, .data⟩ (by simp) rfl).2; rw [hT] at q; exact q
          have y5 : fy 5 = some (fx 5) := (hE ⟨5, .data⟩ (by simp) rfl).1
          have q12 : fx 12 = .bool false := by have q := (hE ⟨12, .data⟩ (by simp) rfl).2; rw [hT] at q; exact q
          have ev33 : fa.tmps[33]?.getD undef = .bool false := (hF.ev 5 33 (by kernel_rfl)).trans q5
          have ev40 : fa.tmps[40]?.getD undef = .bool false := (hF.ev 12 40 (by kernel_rfl)).trans q12
          refine wpOp_val rfl (wanted_none rfl) ?_ (fK (.bool false) fW (hR_ fW) (by rw [hT]; exact rfl) (hP_ 13 _ fy fW rfl hJ))
          clear fK hE hF hJ hN
          go_simp
        refine stepsAll_cons (k := 14) ?_ ?_
        · intro fa fx fW fy hF hN hJ hE K fK
          have hJ : G (fy 3) (fy 5) (fy 7) (fy 14) fW := hJ
          have q7 : fx 7 = .int .i64 er1 := by have q := (hE ⟨7, .chain⟩ (by simp) rfl).2; rw [hT] at q; exact q
          have y7 : fy 7 = some (fx 7) := (hE ⟨7, .chain⟩ (by simp) rfl).1
          have q13 : fx 13 = .bool false := by have q := (hE ⟨13, .data⟩ (by simp) rfl).2; rw [hT] at q; exact q
          have ev41 : fa.tmps[41]?.getD undef = .bool false := (hF.ev 13 41 (by kernel_rfl)).trans q13
          have j1 : G (fy 3) (fy 5) (fy 7) (some (.bool false)) fW := by rw [hG, y7] at hJ ⊢; exact .inr hJ.d3
          refine wpOp_val rfl (wanted_none rfl) (by clear fK hE hF hJ hN; go_simp) (fK (.bool false) fW (hR_ fW) (by rw [hT]; exact rfl) j1)
        refine stepsAll_cons (k := 15) ?_ ?_
        · intro fa fx fW fy hF hN hJ hE K fK
          have hJ : G (fy 3) (fy 5) (fy 7) (fy 14) fW := hJ
          have q14 : fx 14 = .bool false := by have q := (hE ⟨14, .guard⟩ (by simp) rfl).2; rw [hT] at q; exact q
          have y14 : fy 14 = some (fx 14) := (hE ⟨14, .guard⟩ (by simp) rfl).1
          have ev5 : fa.tmps[5]?.getD undef = .pointer (some ⟨b, 0, none⟩) := hF.eo 5 (by kernel_rfl)
          refine wpOp_val rfl (wanted_not rfl (hF.yes 14 42 (by kernel_rfl) false q14)) ?_ (fK (.pointer (some ⟨b, 0, none⟩)) fW (hR_ fW) (by rw [hT]; exact rfl) (hP_ 15 _ fy fW rfl hJ))
          clear fK hE hF hJ hN
          go_simp
        refine stepsAll_cons (k := 16) ?_ ?_
        · intro fa fx fW fy hF hN hJ hE K fK
          have hJ : G (fy 3) (fy 5) (fy 7) (fy 14) fW := hJ
          have q14 : fx 14 = .bool false := by have q := (hE ⟨14, .chain⟩ (by simp) rfl).2; rw [hT] at q; exact q
          have y14 : fy 14 = some (fx 14) := (hE ⟨14, .chain⟩ (by simp) rfl).1
          have q15 : fx 15 = .pointer (some ⟨b, 0, none⟩) := by have q := (hE ⟨15, .data⟩ (by simp) rfl).2; rw [hT] at q; exact q
          have ev43 : fa.tmps[43]?.getD undef = .pointer (some ⟨b, 0, none⟩) := (hF.ev 15 43 (by kernel_rfl)).trans q15
          refine wpOp_call rfl (wanted_not rfl (hF.yes 14 42 (by kernel_rfl) false q14)) (by go_simp; exact ⟨rfl, rfl⟩) ?_
          have hJ2 := hJ
          rw [hG, y14] at hJ2
          refine (srcLeft b er1 bs1 fW hJ2.d4.2.src).mono ?_
          rintro e' w' ⟨rfl, rfl⟩
          exact ⟨_, rfl, fK (.int .i64 bs1.length) (fW) (hR_ fW) (by rw [hT]; exact rfl) (hP_ 16 _ fy fW rfl hJ)⟩
        refine stepsAll_cons (k := 17) ?_ ?_
        · intro fa fx fW fy hF hN hJ hE K fK
          have hJ : G (fy 3) (fy 5) (fy 7) (fy 14) fW := hJ
          have q14 : fx 14 = .bool false := by have q := (hE ⟨14, .guard⟩ (by simp) rfl).2; rw [hT] at q; exact q
          have y14 : fy 14 = some (fx 14) := (hE ⟨14, .guard⟩ (by simp) rfl).1
          have ev6 : fa.tmps[6]?.getD undef = .pointer (some ⟨mm, 0, none⟩) := hF.eo 6 (by kernel_rfl)
          refine wpOp_val rfl (wanted_not rfl (hF.yes 14 42 (by kernel_rfl) false q14)) ?_ (fK (.pointer (some ⟨mm, 0, none⟩)) fW (hR_ fW) (by rw [hT]; exact rfl) (hP_ 17 _ fy fW rfl hJ))
          clear fK hE hF hJ hN
          go_simp
        refine stepsAll_cons (k := 18) ?_ ?_
        · intro fa fx fW fy hF hN hJ hE K fK
          have hJ : G (fy 3) (fy 5) (fy 7) (fy 14) fW := hJ
          have q14 : fx 14 = .bool false := by have q := (hE ⟨14, .guard⟩ (by simp) rfl).2; rw [hT] at q; exact q
          have y14 : fy 14 = some (fx 14) := (hE ⟨14, .guard⟩ (by simp) rfl).1
          have q17 : fx 17 = .pointer (some ⟨mm, 0, none⟩) := by have q := (hE ⟨17, .data⟩ (by simp) rfl).2; rw [hT] at q; exact q
          have ev45 : fa.tmps[45]?.getD undef = .pointer (some ⟨mm, 0, none⟩) := (hF.ev 17 45 (by kernel_rfl)).trans q17
          refine wpOp_val rfl (wanted_not rfl (hF.yes 14 42 (by kernel_rfl) false q14)) ?_ (fK (.pointer (some ⟨mm, 0, none⟩)) fW (hR_ fW) (by rw [hT]; exact rfl) (hP_ 18 _ fy fW rfl hJ))
          clear fK hE hF hJ hN
          go_simp
        refine stepsAll_cons (k := 19) ?_ ?_
        · intro fa fx fW fy hF hN hJ hE K fK
          have hJ : G (fy 3) (fy 5) (fy 7) (fy 14) fW := hJ
          have q14 : fx 14 = .bool false := by have q := (hE ⟨14, .guard⟩ (by simp) rfl).2; rw [hT] at q; exact q
          have y14 : fy 14 = some (fx 14) := (hE ⟨14, .guard⟩ (by simp) rfl).1
          have q18 : fx 18 = .pointer (some ⟨mm, 0, none⟩) := by have q := (hE ⟨18, .data⟩ (by simp) rfl).2; rw [hT] at q; exact q
          have ev46 : fa.tmps[46]?.getD undef = .pointer (some ⟨mm, 0, none⟩) := (hF.ev 18 46 (by kernel_rfl)).trans q18
          refine wpOp_val rfl (wanted_not rfl (hF.yes 14 42 (by kernel_rfl) false q14)) ?_ (fK (.pointer (some ⟨mm, 0, none⟩)) fW (hR_ fW) (by rw [hT]; exact rfl) (hP_ 19 _ fy fW rfl hJ))
          clear fK hE hF hJ hN
          go_simp
        refine stepsAll_cons (k := 20) ?_ ?_
        · intro fa fx fW fy hF hN hJ hE K fK
          have hJ : G (fy 3) (fy 5) (fy 7) (fy 14) fW := hJ
          have q14 : fx 14 = .bool false := by have q := (hE ⟨14, .guard⟩ (by simp) rfl).2; rw [hT] at q; exact q
          have y14 : fy 14 = some (fx 14) := (hE ⟨14, .guard⟩ (by simp) rfl).1
          have q19 : fx 19 = .pointer (some ⟨mm, 0, none⟩) := by have q := (hE ⟨19, .data⟩ (by simp) rfl).2; rw [hT] at q; exact q
          have ev47 : fa.tmps[47]?.getD undef = .pointer (some ⟨mm, 0, none⟩) := (hF.ev 19 47 (by kernel_rfl)).trans q19
          have hJ2 := hJ
          rw [hG, y14] at hJ2
          obtain ⟨A2, n2, c2, r1, r2, r3⟩ := hJ2.d4.2.ref.row
          have hn2 : bs1.length = n2 := rds_len r2
          have y0 := r1.cell
          refine wpOp_val rfl (wanted_not rfl (hF.yes 14 42 (by kernel_rfl) false q14)) ?_ (fK (.slice A2 n2 c2) fW (hR_ fW) (by rw [hT]; exact ⟨A2, c2, by rw [hn2]⟩) (hP_ 20 _ fy fW rfl hJ))
          clear fK hE hF hJ hN hJ2
          go_simp
        refine stepsAll_cons (k := 21) ?_ ?_
        · intro fa fx fW fy hF hN hJ hE K fK
          have hJ : G (fy 3) (fy 5) (fy 7) (fy 14) fW := hJ
          have q14 : fx 14 = .bool false := by have q := (hE ⟨14, .guard⟩ (by simp) rfl).2; rw [hT] at q; exact q
          have y14 : fy 14 = some (fx 14) := (hE ⟨14, .guard⟩ (by simp) rfl).1
          have q20 : (FactS.val (fun u => ∃ A c, u = .slice A bs1.length c) : FactS S_).p (fx 20) fW := by have q := (hE ⟨20, .data⟩ (by simp) rfl).2; rw [hT] at q; exact q
          have ev48 : fa.tmps[48]?.getD undef = fx 20 := hF.ev 20 48 (by kernel_rfl)
          obtain ⟨A2, c2, e2⟩ := q20
          rw [e2] at ev48
          refine wpOp_val rfl (wanted_not rfl (hF.yes 14 42 (by kernel_rfl) false q14)) ?_ (fK (.int .i64 bs1.length) fW (hR_ fW) (by rw [hT]; exact rfl) (hP_ 21 _ fy fW rfl hJ))
          clear fK hE hF hJ hN
          go_simp
        refine stepsAll_cons (k := 22) ?_ ?_
        · intro fa fx fW fy hF hN hJ hE K fK
          have hJ : G (fy 3) (fy 5) (fy 7) (fy 14) fW := hJ
          have q14 : fx 14 = .bool false := by have q := (hE ⟨14, .guard⟩ (by simp) rfl).2; rw [hT] at q; exact q
          have y14 : fy 14 = some (fx 14) := (hE ⟨14, .guard⟩ (by simp) rfl).1
          have q16 : fx 16 = .int .i64 bs1.length := by have q := (hE ⟨16, .data⟩ (by simp) rfl).2; rw [hT] at q; exact q
          have q21 : fx 21 = .int .i64 bs1.length := by have q := (hE ⟨21, .data⟩ (by simp) rfl).2; rw [hT] at q; exact q
          have ev44 : fa.tmps[44]?.getD undef = .int .i64 bs1.length := (hF.ev 16 44 (by kernel_rfl)).trans q16
          have ev49 : fa.tmps[49]?.getD undef = .int .i64 bs1.length := (hF.ev 21 49 (by kernel_rfl)).trans q21
          refine wpOp_val rfl (wanted_not rfl (hF.yes 14 42 (by kernel_rfl) false q14)) ?_ (fK (.bool false) fW (hR_ fW) (by rw [hT]; exact rfl) (hP_ 22 _ fy fW rfl hJ))
          clear fK hE hF hJ hN
          go_simp
        refine stepsAll_cons (k := 23) ?_ ?_
        · intro fa fx fW fy hF hN hJ hE K fK
          have hJ : G (fy 3) (fy 5) (fy 7) (fy 14) fW := hJ
          have q14 : fx 14 = .bool false := by have q := (hE ⟨14, .data⟩ (by simp) rfl).2; rw [hT] at q; exact q
          have y14 : fy 14 = some (fx 14) := (hE ⟨14, .data⟩ (by simp) rfl).1
          have q22 : fx 22 = .bool false := by have q := (hE ⟨22, .data⟩ (by simp) rfl).2; rw [hT] at q; exact q
          have ev42 : fa.tmps[42]?.getD undef = .bool false := (hF.ev 14 42 (by kernel_rfl)).trans q14
          have ev50 : fa.tmps[50]?.getD undef = .bool false := (hF.ev 22 50 (by kernel_rfl)).trans q22
          refine wpOp_val rfl (wanted_none rfl) ?_ (fK (.bool false) fW (hR_ fW) (by rw [hT]; exact rfl) (hP_ 23 _ fy fW rfl hJ))
          clear fK hE hF hJ hN
          go_simp
        exact stepsAll_nil
      intro fa fx fW fy hF hJ0 hx
      have y3 : fy 3 = some (fx 3) := (hx 3 (by decide)).1
      have y5 : fy 5 = some (fx 5) := (hx 5 (by decide)).1
      have y7 : fy 7 = some (fx 7) := (hx 7 (by decide)).1
      have y14 : fy 14 = some (fx 14) := (hx 14 (by decide)).1
      have hJ : G (fy 3) (fy 5) (fy 7) (fy 14) fW := hJ0
      clear hJ0
      rw [y3, y5, y7, y14] at hJ
      have q23 : fx 23 = .bool false := by have q := (hx 23 (by decide)).2; rw [hT] at q; exact q
      have ev51 : fa.tmps[51]?.getD undef = .bool false := (hF.ev 23 51 (by kernel_rfl)).trans q23
      rw [hF.eq]
      clear hF hx hT T hP_ hR_ y3 y5 y7 y14
      simp only [putAll, Act.put, List.setIfInBounds_toArray, List.set_cons_zero, List.set_cons_succ, q23]
      rw [hG] at hJ
      have hJ1 := hJ.d1
      have hB9 : Below w.heap.size w fW := hJ1.chg.toBelow (below_then hBr hBr.size hal) (Nat.le_trans hBr.size hal.size) (fun k hk => by have := hb1.size; rcases hk with rfl | rfl <;> omega)
      go_wp2
      refine ⟨⟨k + 1, (bs1, er1), by omega, by go_num, ⟨hbo1.chg.trans hJ1.chg, hJ1.src, hJ1.ref⟩, hB9, HS1.out⟩, by simp [intOf]; omega⟩
    · have hkm : k = m := by omega
      have hE1 := hbo.src
      have hE2 := hbo.ref
      have HE1 := Lib.hid (srcEnd b _ _ wr hE1)
      have HE2 := Lib.hid (refEnd mm _ _ wr hE2)
      clear hkm
      go_wp2_with (first
        | (go_at_call 29; (with_reducible refine HE1.out.mono ?_); rintro e w3 ⟨rfl, rfl⟩)
        | (go_at_call 32; (with_reducible refine HE2.out.mono ?_); rintro e w3 ⟨rfl, rfl⟩)
        | (go_at_call 9; (with_reducible refine (HL.out _).mono ?_); rintro e w4 ⟨rfl, hb4⟩))
      go_ret
      exact ⟨rfl, below_then hBr hBr.size hb4⟩
end Go.Proofs.Ytdhckbpfkdekmaa
