/- The law StrideTurns, walked. -/
import Derived.Test.YtnacfpkagomfaaaTurnPlain
import Derived.Test.YtnacfpkagomfaaaStrideShares
namespace Go.Proofs.Ytnacfpkagomfaaa
open Go.RowKit
theorem turns_lives (A : Option Addr) (m c : Nat) (q : Int) (w : World) (h : m = 0 ∨ 8 < m) :
    Calls Try.prog 7 #[.slice A m c, .int .u16 q] w fun e w' => e = .returned (.bool true) ∧ Below w.heap.size w w' := by
  have HL := Lib.hid (fun W => lives17 W)
  rcases h with rfl | h
  · have hz : ((0 : Int) == 0) = true := by simp
    go_enter Try.func7, Try.ntmps7
    go_wp2_with (go_at_call 9; (with_reducible refine (HL.out _).mono ?_); rintro e w1 ⟨rfl, hb1⟩)
    go_ret
    exact ⟨rfl, hb1⟩
  · have hz : ((m : Int) == 0) = false := by simp; omega
    have h8 : (8 : Int) < m := by omega
    go_enter Try.func7, Try.ntmps7
    go_wp2_with (go_at_call 9; (with_reducible refine (HL.out _).mono ?_); rintro e w1 ⟨rfl, hb1⟩)
    go_ret
    exact ⟨rfl, hb1⟩
/-- Three rows of the call's own, apart. -/
def Row1 (w W : World) (a : Option Value) (n : Nat) : Prop := ∀ v, a = some v → ∃ g, v = .slice (some ⟨g, 0, none⟩) n n ∧ W.ownsRow w.heap.size 3 1 v n (nums .i64 (List.replicate n 0))
def ApartO (a b : Option Value) : Prop := ∀ v u, a = some v → b = some u → v.ownBlock ≠ u.ownBlock
def Same1 (a d : Option Value) : Prop := ∀ v, d = some v → a = some v
structure Rows3 (w : World) (n : Nat) (a b c d e f : Option Value) (W : World) : Prop where
  be : Below w.heap.size w W
  la : Row1 w W a n
  lb : Row1 w W b n
  lc : Row1 w W c n
  ab : ApartO a b
  bc : ApartO b c
  ca : ApartO c a
  da : Same1 a d
  eb : Same1 b e
  fc : Same1 c f
theorem Rows3.rot {w : World} {n : Nat} {a b c d e f : Option Value} {W : World} (h : Rows3 w n a b c d e f W) : Rows3 w n b c a e f d W := ⟨h.be, h.lb, h.lc, h.la, h.bc, h.ca, h.ab, h.eb, h.fc, h.da⟩
theorem Row1.stay {w W W' : World} {a : Option Value} {n : Nat} (h : Row1 w W a n) (hb : Below W.heap.size W W') : Row1 w W' a n := fun v e => by
  obtain ⟨g, h1, h2⟩ := h v e
  exact ⟨g, h1, own_below h2 hb⟩
theorem Rows3.stay {w : World} {n : Nat} {a b c d e f : Option Value} {W W' : World} (h : Rows3 w n a b c d e f W) (hb : Below W.heap.size W W') : Rows3 w n a b c d e f W' :=
  ⟨below_then h.be h.be.size hb, h.la.stay hb, h.lb.stay hb, h.lc.stay hb, h.ab, h.bc, h.ca, h.da, h.eb, h.fc⟩
theorem Rows3.mk1 {w : World} {n : Nat} {b c d e f : Option Value} {W W' : World} {g : Nat} (h : Rows3 w n none b c d e f W) (hg : W.heap.size ≤ g) (ho : W'.ownsRow w.heap.size 3 1 (.slice (some ⟨g, 0, none⟩) n n) n (nums .i64 (List.replicate n 0))) (hb : Below W.heap.size W W') : Rows3 w n (some (.slice (some ⟨g, 0, none⟩) n n)) b c d e f W' := by
  have h' := h.stay hb
  have fr : ∀ (b : Option Value), Row1 w W b n → ApartO (some (.slice (some ⟨g, 0, none⟩) n n)) b := by
    intro b hb v u hv hu e
    cases hv
    obtain ⟨g2, h1, h2⟩ := hb u hu
    rw [h1] at e h2
    have h3 := (h2.lt g2 rfl).2
    have e2 : g = g2 := by simpa [Value.ownBlock] using e
    omega
  refine ⟨h'.be, ?_, h'.lb, h'.lc, fr _ h.lb, h.bc, fun v u hv hu e => fr _ h.lc u v hu hv e.symm, (fun v hv => by cases (h.da v hv)), h.eb, h.fc⟩
  intro v e
  cases e
  exact ⟨g, rfl, ho⟩
theorem Rows3.cp1 {w : World} {n : Nat} {a b c e f : Option Value} {W : World} (h : Rows3 w n a b c none e f W) {v : Value} (ha : a = some v) : Rows3 w n a b c (some v) e f W :=
  ⟨h.be, h.la, h.lb, h.lc, h.ab, h.bc, h.ca, fun u hu => by cases hu; exact ha, h.eb, h.fc⟩
theorem rds_blk {w : World} {sz n c : Nat} {ad : Addr} {cs : List Value} (h : Rds w sz (some ad) n c cs) (hn : 0 < cs.length) : ad.block < w.heap.size :=
  World.block_lt_of_cell? w _ (h.cell ad rfl 0 _ (List.getElem?_eq_getElem hn))
theorem rowGet {W : World} {base g n : Nat} {xs : List Int} (h : W.ownsRow base 3 1 (.slice (some ⟨g, 0, none⟩) n n) n (nums .i64 xs)) {i : Nat} (hi : i < n) :
    W.cell? ⟨g, i, none⟩ = some (.int .i64 (xs.getD i 0)) ∧ W.frozen? ⟨g, i, none⟩ = false ∧ ∀ v : Int, (W.setCell ⟨g, i, none⟩ (.int .i64 v)).ownsRow base 3 1 (.slice (some ⟨g, 0, none⟩) n n) n (nums .i64 (xs.set i v)) := by
  have hl : xs.length = n := by have := h.1; rw [nums_length] at this; omega
  have h1 := h.cellAt i (by omega)
  rw [nums_get .i64 xs i (by omega), show xs[i] = xs.getD i 0 by simp [List.getD_eq_getElem?_getD, hl, hi]] at h1
  refine ⟨h1, h.frozenAt i, fun v => ?_⟩
  have h2 := (h.stored i (.int .i64 v)).1
  rwa [show (nums .i64 xs).set i (.int .i64 v) = nums .i64 (xs.set i v) by simp [nums, List.map_set]] at h2
/-- The counts, the first i of them one more. -/
def incP (since : List Int) (i : Nat) : List Int := (incL since).take i ++ since.drop i
theorem incP_zero (since : List Int) : incP since 0 = since := by simp [incP]
theorem incP_all {since : List Int} {n : Nat} (h : since.length = n) : incP since n = incL since := by
  unfold incP
  rw [List.take_of_length_le (by simp [incL, h]), List.drop_of_length_le (by omega), List.append_nil]
theorem incP_get {since : List Int} {i : Nat} (h : i < since.length) : (incP since i).getD i 0 = since.getD i 0 := by
  unfold incP
  have hl : ((incL since).take i).length = i := by rw [List.length_take]; simp [incL]; omega
  simp only [List.getD_eq_getElem?_getD]
  rw [List.getElem?_append_right (by omega), hl, Nat.sub_self, List.getElem?_drop, Nat.add_zero]
theorem incP_set {since : List Int} {i : Nat} (h : i < since.length) : (incP since i).set i (since.getD i 0 + 1) = incP since (i + 1) := by
  unfold incP
  have hl : ((incL since).take i).length = i := by rw [List.length_take]; simp [incL]; omega
  have hi : i < (incL since).length := by simpa [incL] using h
  rw [List.set_append_right _ _ (by omega), hl, Nat.sub_self, List.drop_eq_getElem_cons h, List.set_cons_zero, List.take_succ_eq_append_getElem hi, List.append_assoc]
  congr 1
  simp [incL, List.getD_eq_getElem?_getD, h]
theorem incP_get' {since : List Int} {i : Nat} (h : i < since.length) : (incP since (i + 1)).getD i 0 = since.getD i 0 + 1 := by
  rw [← incP_set h, getD_set' _ _ _ _ (by
    unfold incP
    rw [List.length_append, List.length_take, List.length_drop]
    simp only [incL, List.length_map]
    omega), if_pos rfl]
theorem ahead_le {p i q j : Int} : (aheadV p i q j = true → p ≤ q) ∧ (aheadV p i q j = false → q ≤ p) := by
  unfold aheadV
  constructor
  · intro h
    simp only [Bool.or_eq_true, Bool.and_eq_true, decide_eq_true_eq] at h
    omega
  · intro h
    simp only [Bool.or_eq_false_iff, decide_eq_false_iff_not] at h
    omega
/-- One row is stored at one place, once. -/
structure StG (W4 : World) (g : Nat) (Q : World → Prop) (a c : Option Value) (W : World) : Prop where
  ch : Chg (fun z => z = g) W4 W
  no : c = none → Below W4.heap.size W4 W
  yes : c.isSome = true → Q W
  ca : c.isSome = true → a.isSome = true
theorem StG.stay {W4 : World} {g : Nat} {Q : World → Prop} {a c : Option Value} {W W' : World} (hQ : ∀ W W', Q W → Below W.heap.size W W' → Q W') (h : StG W4 g Q a c W) (hb : Below W.heap.size W W') : StG W4 g Q a c W' :=
  ⟨h.ch.trans (.of_below hb), fun e => below_tr (h.no e) hb, fun e => hQ _ _ (h.yes e) hb, h.ca⟩
theorem StG.none_ {W4 : World} {g : Nat} {Q : World → Prop} {c : Option Value} {W : World} (h : StG W4 g Q none c W) : c = none := by
  cases c with
  | none => rfl
  | some v => have := h.ca rfl; cases this
set_option maxRecDepth 100000 in
set_option maxHeartbeats 8000000 in
theorem turns_walk (A : Option Addr) (m c : Nat) (l : List Int) (q : Int) (w : World) (hr : Rds w 1 A m c (nums .u16 l)) (hl : ∀ x ∈ l, 0 ≤ x ∧ x ≤ 65535) (h0 : 0 < m) (h1 : m ≤ 8) (hq : 0 ≤ q ∧ q ≤ 65535) :
    Calls Try.prog 7 #[.slice A m c, .int .u16 q] w fun e w' => e = .returned (.bool true) ∧ Below w.heap.size w w' := by
  have HL := Lib.hid (fun W => lives17 W)
  have HN : Hid (l.length = m) := by have := hr.len; rw [nums_length] at this; show _ = _; omega
  have HX := Lib.hid hl
  have d1 : decide ((m : Int) > 8) = false := by simp; omega
  have d2 : ((m : Int) == 0) = false := by simp; omega
  obtain ⟨q0, q1⟩ := hq
  clear hl
  go_enter Try.func7, Try.ntmps7
  go_wp2
  go_loopw [5, 27] (fun t i wr => ∃ k : Nat, k ≤ m ∧ i = .int .i64 k ∧ wr.ownsRow w.heap.size 3 1 t k (nums .i64 (tix (l.take k))) ∧ Below w.heap.size w wr) (fun _ i _ => m - (intOf i).toNat)
  case atStart => exact ⟨0, Nat.zero_le _, rfl, World.ownsRow_nil _ _ _ _, Below.refl _ _⟩
  case round =>
    obtain ⟨k, hk, rfl, ho, hb⟩ := hrel
    by_cases hlt : k < m
    · have hkx : k < l.length := by rw [HN.out]; exact hlt
      obtain ⟨ad, rfl⟩ := hr.some_ (by omega)
      have hc1 := (hr.below hb).cell ad rfl k _ (nums_get .u16 l k hkx)
      have hx := HX.out l[k] (List.getElem_mem hkx)
      have HT : Hid (nums .i64 (tix (l.take k)) ++ [.int .i64 (1 + l[k])] = nums .i64 (tix (l.take (k + 1)))) := by
        show _ = _
        rw [List.take_succ_eq_append_getElem hkx]
        unfold tix nums
        rw [List.map_append, List.map_append]
        rfl
      generalize l[k] = y at *
      obtain ⟨x0, x1⟩ := hx
      go_wp2_with (at_builtin; (refine ap1 (w0 := w) w.heap.size rfl _ _ 28 3 _ 8 (by rfl) Try.underlying28 info_int rfl (by decide) _ _ _ _ (by rfl) (by rfl) rfl ho hb hb.size (by omega) ?_); intro v1 w1 ho1 hb1 _ _)
      go_roundw
      case rel => exact ⟨k + 1, by omega, by go_num, by rw [HT.out] at ho1; exact ho1, hb1⟩
      case measure => simp only [intOf]; omega
    · obtain rfl : k = m := by omega
      rw [show l.take k = l by rw [List.take_of_length_le (by rw [HN.out]; exact Nat.le_refl _)]] at ho
      have htl : (tix l).length = k := by simp [tix, HN.out]
      have HRT : Hid (RightL (tix l)) := by
        refine ⟨by omega, fun x hx => ?_⟩
        simp only [tix, List.mem_map] at hx
        obtain ⟨y, hy, rfl⟩ := hx
        have := HX.out y hy
        omega
      generalize tix l = t at *
      obtain ⟨TA, TK, TC, rfl, htk, hrt⟩ := own_open ho
      have htk' := htk.out
      subst htk'
      obtain ⟨W1, rfl⟩ : ∃ x, x = wr := ⟨_, rfl⟩
      have hz : Hid ((madeCells (Value.int .i64 0).cells (TK * 1)).toList = nums .i64 (List.replicate TK 0)) := by
        show _ = _
        rw [Nat.mul_one, show (Value.int .i64 0).cells = #[.int .i64 0] from rfl, toList_madeCells_one]
        simp [nums]
      clear ho hr HX HN htk d1 d2
      go_wp2
      obtain ⟨S_, hS_⟩ : ∃ S_ : World → World → Prop, S_ = (fun _ _ => True) := ⟨_, rfl⟩
      have hR_ : ∀ W, S_ W W := by intro W; rw [hS_]; exact trivial
      obtain ⟨T, hT⟩ : ∃ T : Nat → FactS S_, ∀ t_, T t_ = ([FactS.eq (.slice TA TK TC), FactS.eq (.int .i64 TK), FactS.any, FactS.eq (.slice TA TK TC), FactS.eq (.int .i64 TK), FactS.any, FactS.eq (.slice TA TK TC), FactS.eq (.int .i64 TK), FactS.any, FactS.any, FactS.any, FactS.any] : List (FactS S_)).getD t_ FactS.any := ⟨_, fun _ => rfl⟩
      have hP_ : ∀ i_ v_ (y_ : Nat → Option Value) W_, ([2, 5, 8, 9, 10, 11].contains i_) = false → (Rows3 W1 TK) (y_ 2) (y_ 5) (y_ 8) (y_ 9) (y_ 10) (y_ 11) W_ → (Rows3 W1 TK) (updY y_ i_ v_ 2) (updY y_ i_ v_ 5) (updY y_ i_ v_ 8) (updY y_ i_ v_ 9) (updY y_ i_ v_ 10) (updY y_ i_ v_ 11) W_ := by
        intro i_ v_ y_ W_ hi_ h_
        simp only [List.contains_cons, List.contains_nil, Bool.or_false, Bool.or_eq_false_iff, beq_eq_false_iff_ne, ne_eq] at hi_
        obtain ⟨i2_, i5_, i8_, i9_, i10_, i11_⟩ := hi_
        rw [updY_ne y_ i_ v_ i2_, updY_ne y_ i_ v_ i5_, updY_ne y_ i_ v_ i8_, updY_ne y_ i_ v_ i9_, updY_ne y_ i_ v_ i10_, updY_ne y_ i_ v_ i11_]
        exact h_
      refine region_tabJ [(0, 38), (1, 39), (2, 40), (3, 41), (4, 42), (5, 43), (6, 44), (7, 45), (8, 46), (9, 8), (10, 9), (11, 10)] S_ T (fun y_ W_ => (Rows3 W1 TK) (y_ 2) (y_ 5) (y_ 8) (y_ 9) (y_ 10) (y_ 11) W_) (by kernel_rfl) (by kernel_rfl) (by kernel_rfl) (by kernel_rfl) (by kernel_rfl) ?_ ?_ ?_
      · skip
        exact ⟨below_dr (Below.refl _ _) 1, (fun v e => by cases e), (fun v e => by cases e), (fun v e => by cases e), (fun v u e => by cases e), (fun v u e => by cases e), (fun v u e => by cases e), (fun v e => by cases e), (fun v e => by cases e), (fun v e => by cases e)⟩
      · skip
        refine stepsAll_cons (k := 0) ?_ ?_
        · intro fa fx fW fy hF hN hJ hE K fK
          have hJ : (Rows3 W1 TK) (fy 2) (fy 5) (fy 8) (fy 9) (fy 10) (fy 11) fW := hJ
          have ev5 : fa.tmps[5]?.getD undef = .slice TA TK TC := hF.eo 5 (by kernel_rfl)
          refine wpOp_val rfl (wanted_none rfl) ?_ (fK (.slice TA TK TC) fW (hR_ fW) (by rw [hT]; exact rfl) (hP_ 0 _ fy fW rfl hJ))
          clear fK hE hF hJ hN
          go_simp
        refine stepsAll_cons (k := 1) ?_ ?_
        · intro fa fx fW fy hF hN hJ hE K fK
          have hJ : (Rows3 W1 TK) (fy 2) (fy 5) (fy 8) (fy 9) (fy 10) (fy 11) fW := hJ
          have q0 : fx 0 = .slice TA TK TC := by have q := (hE ⟨0, .data⟩ (by simp) rfl).2; rw [hT] at q; exact q
          have ev38 : fa.tmps[38]?.getD undef = .slice TA TK TC := (hF.ev 0 38 (by kernel_rfl)).trans q0
          refine wpOp_val rfl (wanted_none rfl) ?_ (fK (.int .i64 TK) fW (hR_ fW) (by rw [hT]; exact rfl) (hP_ 1 _ fy fW rfl hJ))
          clear fK hE hF hJ hN
          go_simp
        refine stepsAll_cons (k := 2) ?_ ?_
        · intro fa fx fW fy hF hN hJ hE K fK
          have hJ : (Rows3 W1 TK) (fy 2) (fy 5) (fy 8) (fy 9) (fy 10) (fy 11) fW := hJ
          have q1 : fx 1 = .int .i64 TK := by have q := (hE ⟨1, .data⟩ (by simp) rfl).2; rw [hT] at q; exact q
          have ev39 : fa.tmps[39]?.getD undef = .int .i64 TK := (hF.ev 1 39 (by kernel_rfl)).trans q1
          refine wpOp_list rfl (mkn (w0 := fW) W1.heap.size rfl _ _ 28 3 _ 1 8 rfl Try.underlying28 info_int .i64 .i64 _ _ TK (by go_simp) (by go_simp) rfl rfl (by omega) (by unfold maxLen; omega) ⟨rfl, rfl, rfl, Nat.le_refl _, fun _ _ => rfl⟩ hJ.be.size ?_)
          intro w2 ho2 _ hg2
          have hb2 : Below fW.heap.size fW w2 := ⟨hg2.os, hg2.tape, hg2.output, hg2.size, fun i hi => hg2.block i hi (fun e => by cases e)⟩
          rw [hz.out] at ho2
          refine fK _ _ (by rw [hS_]; trivial) (by rw [hT]; exact trivial) ?_
          rw [hN] at hJ
          exact hJ.mk1 (Nat.le_refl _) ho2 hb2
        refine stepsAll_cons (k := 3) ?_ ?_
        · intro fa fx fW fy hF hN hJ hE K fK
          have hJ : (Rows3 W1 TK) (fy 2) (fy 5) (fy 8) (fy 9) (fy 10) (fy 11) fW := hJ
          have ev5 : fa.tmps[5]?.getD undef = .slice TA TK TC := hF.eo 5 (by kernel_rfl)
          refine wpOp_val rfl (wanted_none rfl) ?_ (fK (.slice TA TK TC) fW (hR_ fW) (by rw [hT]; exact rfl) (hP_ 3 _ fy fW rfl hJ))
          clear fK hE hF hJ hN
          go_simp
        refine stepsAll_cons (k := 4) ?_ ?_
        · intro fa fx fW fy hF hN hJ hE K fK
          have hJ : (Rows3 W1 TK) (fy 2) (fy 5) (fy 8) (fy 9) (fy 10) (fy 11) fW := hJ
          have q3 : fx 3 = .slice TA TK TC := by have q := (hE ⟨3, .data⟩ (by simp) rfl).2; rw [hT] at q; exact q
          have ev41 : fa.tmps[41]?.getD undef = .slice TA TK TC := (hF.ev 3 41 (by kernel_rfl)).trans q3
          refine wpOp_val rfl (wanted_none rfl) ?_ (fK (.int .i64 TK) fW (hR_ fW) (by rw [hT]; exact rfl) (hP_ 4 _ fy fW rfl hJ))
          clear fK hE hF hJ hN
          go_simp
        refine stepsAll_cons (k := 5) ?_ ?_
        · intro fa fx fW fy hF hN hJ hE K fK
          have hJ : (Rows3 W1 TK) (fy 2) (fy 5) (fy 8) (fy 9) (fy 10) (fy 11) fW := hJ
          have q4 : fx 4 = .int .i64 TK := by have q := (hE ⟨4, .data⟩ (by simp) rfl).2; rw [hT] at q; exact q
          have ev42 : fa.tmps[42]?.getD undef = .int .i64 TK := (hF.ev 4 42 (by kernel_rfl)).trans q4
          refine wpOp_list rfl (mkn (w0 := fW) W1.heap.size rfl _ _ 28 3 _ 1 8 rfl Try.underlying28 info_int .i64 .i64 _ _ TK (by go_simp) (by go_simp) rfl rfl (by omega) (by unfold maxLen; omega) ⟨rfl, rfl, rfl, Nat.le_refl _, fun _ _ => rfl⟩ hJ.be.size ?_)
          intro w2 ho2 _ hg2
          have hb2 : Below fW.heap.size fW w2 := ⟨hg2.os, hg2.tape, hg2.output, hg2.size, fun i hi => hg2.block i hi (fun e => by cases e)⟩
          rw [hz.out] at ho2
          refine fK _ _ (by rw [hS_]; trivial) (by rw [hT]; exact trivial) ?_
          rw [hN] at hJ
          exact ((hJ.rot).mk1 (Nat.le_refl _) ho2 hb2).rot.rot
        refine stepsAll_cons (k := 6) ?_ ?_
        · intro fa fx fW fy hF hN hJ hE K fK
          have hJ : (Rows3 W1 TK) (fy 2) (fy 5) (fy 8) (fy 9) (fy 10) (fy 11) fW := hJ
          have ev5 : fa.tmps[5]?.getD undef = .slice TA TK TC := hF.eo 5 (by kernel_rfl)
          refine wpOp_val rfl (wanted_none rfl) ?_ (fK (.slice TA TK TC) fW (hR_ fW) (by rw [hT]; exact rfl) (hP_ 6 _ fy fW rfl hJ))
          clear fK hE hF hJ hN
          go_simp
        refine stepsAll_cons (k := 7) ?_ ?_
        · intro fa fx fW fy hF hN hJ hE K fK
          have hJ : (Rows3 W1 TK) (fy 2) (fy 5) (fy 8) (fy 9) (fy 10) (fy 11) fW := hJ
          have q6 : fx 6 = .slice TA TK TC := by have q := (hE ⟨6, .data⟩ (by simp) rfl).2; rw [hT] at q; exact q
          have ev44 : fa.tmps[44]?.getD undef = .slice TA TK TC := (hF.ev 6 44 (by kernel_rfl)).trans q6
          refine wpOp_val rfl (wanted_none rfl) ?_ (fK (.int .i64 TK) fW (hR_ fW) (by rw [hT]; exact rfl) (hP_ 7 _ fy fW rfl hJ))
          clear fK hE hF hJ hN
          go_simp
        refine stepsAll_cons (k := 8) ?_ ?_
        · intro fa fx fW fy hF hN hJ hE K fK
          have hJ : (Rows3 W1 TK) (fy 2) (fy 5) (fy 8) (fy 9) (fy 10) (fy 11) fW := hJ
          have q7 : fx 7 = .int .i64 TK := by have q := (hE ⟨7, .data⟩ (by simp) rfl).2; rw [hT] at q; exact q
          have ev45 : fa.tmps[45]?.getD undef = .int .i64 TK := (hF.ev 7 45 (by kernel_rfl)).trans q7
          refine wpOp_list rfl (mkn (w0 := fW) W1.heap.size rfl _ _ 28 3 _ 1 8 rfl Try.underlying28 info_int .i64 .i64 _ _ TK (by go_simp) (by go_simp) rfl rfl (by omega) (by unfold maxLen; omega) ⟨rfl, rfl, rfl, Nat.le_refl _, fun _ _ => rfl⟩ hJ.be.size ?_)
          intro w2 ho2 _ hg2
          have hb2 : Below fW.heap.size fW w2 := ⟨hg2.os, hg2.tape, hg2.output, hg2.size, fun i hi => hg2.block i hi (fun e => by cases e)⟩
          rw [hz.out] at ho2
          refine fK _ _ (by rw [hS_]; trivial) (by rw [hT]; exact trivial) ?_
          rw [hN] at hJ
          exact ((hJ.rot.rot).mk1 (Nat.le_refl _) ho2 hb2).rot
        refine stepsAll_cons (k := 9) ?_ ?_
        · intro fa fx fW fy hF hN hJ hE K fK
          have hJ : (Rows3 W1 TK) (fy 2) (fy 5) (fy 8) (fy 9) (fy 10) (fy 11) fW := hJ
          have q2 : (FactS.any : FactS S_).p (fx 2) fW := by have q := (hE ⟨2, .data⟩ (by simp) rfl).2; rw [hT] at q; exact q
          have y2 : fy 2 = some (fx 2) := (hE ⟨2, .data⟩ (by simp) rfl).1
          have ev40 : fa.tmps[40]?.getD undef = fx 2 := hF.ev 2 40 (by kernel_rfl)
          rw [hN] at hJ
          refine wpOp_val rfl (wanted_none rfl) (v := fx 2) (by clear fK hE hF hJ hN; go_simp) (fK _ _ (hR_ fW) (by rw [hT]; exact trivial) ?_)
          exact hJ.cp1 y2
        refine stepsAll_cons (k := 10) ?_ ?_
        · intro fa fx fW fy hF hN hJ hE K fK
          have hJ : (Rows3 W1 TK) (fy 2) (fy 5) (fy 8) (fy 9) (fy 10) (fy 11) fW := hJ
          have q5 : (FactS.any : FactS S_).p (fx 5) fW := by have q := (hE ⟨5, .data⟩ (by simp) rfl).2; rw [hT] at q; exact q
          have y5 : fy 5 = some (fx 5) := (hE ⟨5, .data⟩ (by simp) rfl).1
          have ev43 : fa.tmps[43]?.getD undef = fx 5 := hF.ev 5 43 (by kernel_rfl)
          rw [hN] at hJ
          refine wpOp_val rfl (wanted_none rfl) (v := fx 5) (by clear fK hE hF hJ hN; go_simp) (fK _ _ (hR_ fW) (by rw [hT]; exact trivial) ?_)
          exact ((hJ.rot).cp1 y5).rot.rot
        refine stepsAll_cons (k := 11) ?_ ?_
        · intro fa fx fW fy hF hN hJ hE K fK
          have hJ : (Rows3 W1 TK) (fy 2) (fy 5) (fy 8) (fy 9) (fy 10) (fy 11) fW := hJ
          have q8 : (FactS.any : FactS S_).p (fx 8) fW := by have q := (hE ⟨8, .data⟩ (by simp) rfl).2; rw [hT] at q; exact q
          have y8 : fy 8 = some (fx 8) := (hE ⟨8, .data⟩ (by simp) rfl).1
          have ev46 : fa.tmps[46]?.getD undef = fx 8 := hF.ev 8 46 (by kernel_rfl)
          rw [hN] at hJ
          refine wpOp_val rfl (wanted_none rfl) (v := fx 8) (by clear fK hE hF hJ hN; go_simp) (fK _ _ (hR_ fW) (by rw [hT]; exact trivial) ?_)
          exact ((hJ.rot.rot).cp1 y8).rot
        exact stepsAll_nil
      intro fa fx fW fy hF hJ0 hx
      have y2 : fy 2 = some (fx 2) := (hx 2 (by decide)).1
      have y5 : fy 5 = some (fx 5) := (hx 5 (by decide)).1
      have y8 : fy 8 = some (fx 8) := (hx 8 (by decide)).1
      have y9 : fy 9 = some (fx 9) := (hx 9 (by decide)).1
      have y10 : fy 10 = some (fx 10) := (hx 10 (by decide)).1
      have y11 : fy 11 = some (fx 11) := (hx 11 (by decide)).1
      have hJ : (Rows3 W1 TK) (fy 2) (fy 5) (fy 8) (fy 9) (fy 10) (fy 11) fW := hJ0
      clear hJ0
      rw [y2, y5, y8, y9, y10, y11] at hJ
      rw [hF.eq]
      clear hF hx hT T hP_ hR_ y2 y5 y8 y9 y10 y11
      simp only [putAll, Act.put, List.setIfInBounds_toArray, List.set_cons_zero, List.set_cons_succ, ]
      rw [show fx 9 = fx 2 from (Option.some.inj (hJ.da _ rfl)).symm, show fx 10 = fx 5 from (Option.some.inj (hJ.eb _ rfl)).symm, show fx 11 = fx 8 from (Option.some.inj (hJ.fc _ rfl)).symm]
      obtain ⟨g1, e1, o1⟩ := hJ.la _ rfl
      obtain ⟨g2, e2, o2⟩ := hJ.lb _ rfl
      obtain ⟨g3, e3, o3⟩ := hJ.lc _ rfl
      have n12 := hJ.ab _ _ rfl rfl
      have n23 := hJ.bc _ _ rfl rfl
      have n31 := hJ.ca _ _ rfl rfl
      have hB1 := hJ.be
      rw [e1] at o1 n12 n31
      rw [e2] at o2 n12 n23
      rw [e3] at o3 n23 n31
      rw [e1, e2, e3]
      have m12 : g1 ≠ g2 := fun e => n12 (by rw [e])
      have m23 : g2 ≠ g3 := fun e => n23 (by rw [e])
      have m31 : g3 ≠ g1 := fun e => n31 (by rw [e])
      clear n12 n23 n31
      have b1 := own_base o1 g1 rfl
      have b2 := own_base o2 g2 rfl
      have b3 := own_base o3 g3 rfl
      obtain ⟨ad, rfl⟩ := hrt.some_ (by omega)
      have hta : ad.block < W1.heap.size := rds_blk hrt (by rw [nums_length]; omega)
      obtain ⟨W2, rfl⟩ : ∃ x, x = fW := ⟨_, rfl⟩
      have hrt2 := hrt.below hB1
      have hB2 := below_then hb hb.size hB1
      clear hJ e1 e2 e3 hB1 hrt hz
      obtain ⟨K, hK⟩ : ∃ K : Nat, q % 300 = K := ⟨(q % 300).toNat, by omega⟩
      have hK3 : K ≤ 299 := by omega
      have HK := Lib.hid hK
      clear hK
      have HT0 := Lib.hid (Turn.start HRT.out)
      rw [htl] at HT0
      have HTL := Lib.hid htl
      clear htl
      go_wp2
      go_loopw [11] (fun kv wr => ∃ k : Nat, k ≤ K ∧ kv = .int .i64 k ∧ ∃ pass n since : List Int, Hid (Turn t pass n since k) ∧ wr.ownsRow W1.heap.size 3 1 (.slice (some ⟨g1, 0, none⟩) TK TK) TK (nums .i64 pass) ∧ wr.ownsRow W1.heap.size 3 1 (.slice (some ⟨g2, 0, none⟩) TK TK) TK (nums .i64 n) ∧ wr.ownsRow W1.heap.size 3 1 (.slice (some ⟨g3, 0, none⟩) TK TK) TK (nums .i64 since) ∧ Chg (fun z => z = g1 ∨ z = g2 ∨ z = g3) W2 wr) (fun kv _ => K - (intOf kv).toNat)
      case atStart => exact ⟨0, Nat.zero_le _, rfl, _, _, _, HT0.out, o1, o2, o3, Chg.refl _ _⟩
      case round =>
        obtain ⟨k, hk, rfl, pass, n, since, HTU, p1, p2, p3, hch⟩ := hrel
        clear o1 o2 o3
        have hB3 := hch.toBelow hB2 hB2.size (fun z hz => by have := hb.size; omega)
        have hrt3 := hch.rds hrt2 (fun a e => by cases e; omega)
        obtain ⟨W3, rfl⟩ : ∃ x, x = wr := ⟨_, rfl⟩
        by_cases hlt : k < K
        · have hkq : (k : Int) < q % 300 := by have := HK.out; omega
          have HP := Lib.hid (fun i (hi : i < TK) => HTU.out.pass_in HRT.out (by omega) (show i < t.length by rw [HTL.out]; exact hi))
          have HS := Lib.hid (fun i (hi : i < TK) => HTU.out.since_in HRT.out (show i < t.length by rw [HTL.out]; exact hi))
          have hls : since.length = TK := by rw [HTU.out.ls]; exact HTL.out
          have HLS := Lib.hid hls
          clear hls
          go_wp2
          go_loopw [12, 56] (fun bv iv wr => ∃ i b : Nat, i ≤ TK ∧ b < TK ∧ iv = .int .i64 i ∧ bv = .int .i64 b ∧ Hid (∀ j, j < i → pass.getD b 0 ≤ pass.getD j 0) ∧ wr.ownsRow W1.heap.size 3 1 (.slice (some ⟨g3, 0, none⟩) TK TK) TK (nums .i64 (incP since i)) ∧ Chg (fun z => z = g3) W3 wr) (fun _ iv _ => TK - (intOf iv).toNat)
          case atStart => exact ⟨0, 0, Nat.zero_le _, h0, rfl, rfl, (fun j hj => by omega), by rw [incP_zero]; exact p3, Chg.refl _ _⟩
          case round =>
            obtain ⟨i, b, hi, hbT, rfl, rfl, HM, s3, hch3⟩ := hrel
            by_cases hlti : i < TK
            · obtain ⟨W4, rfl⟩ : ∃ x, x = wr := ⟨_, rfl⟩
              have p14 := hch3.own p1 (fun z hz => by cases hz; intro e; exact m31 e.symm)
              have hrt4 := hch3.rds hrt3 (fun a e => by cases e; omega)
              have ci := (rowGet p14 hlti).1
              have cb := (rowGet p14 hbT).1
              have hpi := HP.out i hlti
              have hpb := HP.out b hbT
              have hsi := HS.out i hlti
              have hget : (incP since i).getD i 0 = since.getD i 0 := incP_get (by rw [HLS.out]; exact hlti)
              have HINC : Hid ((incP since (i + 1)).getD i 0 = since.getD i 0 + 1) := incP_get' (by rw [HLS.out]; exact hlti)
              have HSET : Hid ((incP since i).set i (since.getD i 0 + 1) = incP since (i + 1)) := incP_set (by rw [HLS.out]; exact hlti)
              have HGET := Lib.hid hget
              have HAH := Lib.hid (fun W => sahead (pass.getD i 0) i (pass.getD b 0) b W)
              have HAL := Lib.hid (ahead_le (p := pass.getD i 0) (i := i) (q := pass.getD b 0) (j := b))
              have HMB : Hid (pass.getD b 0 ≤ pass.getD i 0 → ∀ j, j < i + 1 → pass.getD b 0 ≤ pass.getD j 0) := by
                intro h j hj
                by_cases hji : j = i
                · subst hji; exact h
                · exact HM.out j (by omega)
              have HMI : Hid (pass.getD i 0 ≤ pass.getD b 0 → ∀ j, j < i + 1 → pass.getD i 0 ≤ pass.getD j 0) := by
                intro h j hj
                by_cases hji : j = i
                · subst hji; exact Int.le_refl _
                · have := HM.out j (by omega); omega
              have HBO := Lib.hid (fun W h => sbound (some ad) TK TC t i W h)
              generalize aheadV (pass.getD i 0) i (pass.getD b 0) b = ah at *
              generalize boundV t i = bv at *
              obtain ⟨si, hsie⟩ : ∃ si, si = since.getD i 0 := ⟨_, rfl⟩
              rw [← hsie] at hsi HINC HSET HGET
              have hsb : decide (bv < si + 1) = false := by simp; omega
              obtain ⟨si0, si1, si2⟩ := hsi
              obtain ⟨pi, hpie⟩ : ∃ pi, pi = pass.getD i 0 := ⟨_, rfl⟩
              obtain ⟨pb, hpbe⟩ : ∃ pb, pb = pass.getD b 0 := ⟨_, rfl⟩
              rw [← hpie] at ci
              rw [← hpbe] at cb
              rw [← hpie, ← hpbe] at HAH HAL
              have HPI := Lib.hid hpie
              have HPB := Lib.hid hpbe
              have hii : (i : Int) < TK := by omega
              have hbb1 : (b : Int) < TK := by omega
              clear hget hsie hpie hpbe hpi hpb HM
              go_wp2
              obtain ⟨T, hT⟩ : ∃ T : Nat → Fact, ∀ t_, T t_ = ([Fact.eq (.slice (some ⟨g1, 0, none⟩) TK TK), Fact.eq (.int .i64 i), Fact.eq (.pointer (some ⟨g1, i, none⟩)), Fact.eq (.int .i64 pi), Fact.eq (.int .i64 i), Fact.eq (.slice (some ⟨g1, 0, none⟩) TK TK), Fact.eq (.int .i64 b), Fact.eq (.pointer (some ⟨g1, b, none⟩)), Fact.eq (.int .i64 pb), Fact.eq (.int .i64 b), Fact.eq (.bool ah)] : List (Fact)).getD t_ Fact.any := ⟨_, fun _ => rfl⟩
              refine region_tab [(0, 59), (1, 60), (2, 61), (3, 62), (4, 63), (5, 64), (6, 65), (7, 66), (8, 67), (9, 68), (10, 69)] T (by kernel_rfl) (by kernel_rfl) (by kernel_rfl) (by kernel_rfl) (by kernel_rfl) ?_ ?_
              · skip
                refine stepsAll_cons (k := 0) ?_ ?_
                · intro fa fx fW hF fB hE K fK
                  have ev8 : fa.tmps[8]?.getD undef = .slice (some ⟨g1, 0, none⟩) TK TK := hF.eo 8 (by kernel_rfl)
                  refine wpOp_val rfl (wanted_none rfl) ?_ (fK (.slice (some ⟨g1, 0, none⟩) TK TK) fW (Below.refl _ _) (by rw [hT]; exact rfl))
                  clear fK hE hF
                  go_simp
                refine stepsAll_cons (k := 1) ?_ ?_
                · intro fa fx fW hF fB hE K fK
                  have ev13 : fa.tmps[13]?.getD undef = .int .i64 i := hF.eo 13 (by kernel_rfl)
                  refine wpOp_val rfl (wanted_none rfl) ?_ (fK (.int .i64 i) fW (Below.refl _ _) (by rw [hT]; exact rfl))
                  clear fK hE hF
                  go_simp
                refine stepsAll_cons (k := 2) ?_ ?_
                · intro fa fx fW hF fB hE K fK
                  have q0 : fx 0 = .slice (some ⟨g1, 0, none⟩) TK TK := by have q := hE ⟨0, .data⟩ (by simp) rfl; rw [hT] at q; exact q
                  have q1 : fx 1 = .int .i64 i := by have q := hE ⟨1, .data⟩ (by simp) rfl; rw [hT] at q; exact q
                  have ev59 : fa.tmps[59]?.getD undef = .slice (some ⟨g1, 0, none⟩) TK TK := (hF.ev 0 59 (by kernel_rfl)).trans q0
                  have ev60 : fa.tmps[60]?.getD undef = .int .i64 i := (hF.ev 1 60 (by kernel_rfl)).trans q1
                  refine wpOp_val rfl (wanted_none rfl) ?_ (fK (.pointer (some ⟨g1, i, none⟩)) fW (Below.refl _ _) (by rw [hT]; exact rfl))
                  clear fK hE hF
                  go_simp
                refine stepsAll_cons (k := 3) ?_ ?_
                · intro fa fx fW hF fB hE K fK
                  have q2 : fx 2 = .pointer (some ⟨g1, i, none⟩) := by have q := hE ⟨2, .data⟩ (by simp) rfl; rw [hT] at q; exact q
                  have ev61 : fa.tmps[61]?.getD undef = .pointer (some ⟨g1, i, none⟩) := (hF.ev 2 61 (by kernel_rfl)).trans q2
                  have z := cell_below fB ci
                  refine wpOp_val rfl (wanted_none rfl) ?_ (fK (.int .i64 pi) fW (Below.refl _ _) (by rw [hT]; exact rfl))
                  clear fK hE hF
                  go_simp
                refine stepsAll_cons (k := 4) ?_ ?_
                · intro fa fx fW hF fB hE K fK
                  have ev13 : fa.tmps[13]?.getD undef = .int .i64 i := hF.eo 13 (by kernel_rfl)
                  refine wpOp_val rfl (wanted_none rfl) ?_ (fK (.int .i64 i) fW (Below.refl _ _) (by rw [hT]; exact rfl))
                  clear fK hE hF
                  go_simp
                refine stepsAll_cons (k := 5) ?_ ?_
                · intro fa fx fW hF fB hE K fK
                  have ev8 : fa.tmps[8]?.getD undef = .slice (some ⟨g1, 0, none⟩) TK TK := hF.eo 8 (by kernel_rfl)
                  refine wpOp_val rfl (wanted_none rfl) ?_ (fK (.slice (some ⟨g1, 0, none⟩) TK TK) fW (Below.refl _ _) (by rw [hT]; exact rfl))
                  clear fK hE hF
                  go_simp
                refine stepsAll_cons (k := 6) ?_ ?_
                · intro fa fx fW hF fB hE K fK
                  have ev12 : fa.tmps[12]?.getD undef = .int .i64 b := hF.eo 12 (by kernel_rfl)
                  refine wpOp_val rfl (wanted_none rfl) ?_ (fK (.int .i64 b) fW (Below.refl _ _) (by rw [hT]; exact rfl))
                  clear fK hE hF
                  go_simp
                refine stepsAll_cons (k := 7) ?_ ?_
                · intro fa fx fW hF fB hE K fK
                  have q5 : fx 5 = .slice (some ⟨g1, 0, none⟩) TK TK := by have q := hE ⟨5, .data⟩ (by simp) rfl; rw [hT] at q; exact q
                  have q6 : fx 6 = .int .i64 b := by have q := hE ⟨6, .data⟩ (by simp) rfl; rw [hT] at q; exact q
                  have ev64 : fa.tmps[64]?.getD undef = .slice (some ⟨g1, 0, none⟩) TK TK := (hF.ev 5 64 (by kernel_rfl)).trans q5
                  have ev65 : fa.tmps[65]?.getD undef = .int .i64 b := (hF.ev 6 65 (by kernel_rfl)).trans q6
                  refine wpOp_val rfl (wanted_none rfl) ?_ (fK (.pointer (some ⟨g1, b, none⟩)) fW (Below.refl _ _) (by rw [hT]; exact rfl))
                  clear fK hE hF
                  go_simp
                refine stepsAll_cons (k := 8) ?_ ?_
                · intro fa fx fW hF fB hE K fK
                  have q7 : fx 7 = .pointer (some ⟨g1, b, none⟩) := by have q := hE ⟨7, .data⟩ (by simp) rfl; rw [hT] at q; exact q
                  have ev66 : fa.tmps[66]?.getD undef = .pointer (some ⟨g1, b, none⟩) := (hF.ev 7 66 (by kernel_rfl)).trans q7
                  have z := cell_below fB cb
                  refine wpOp_val rfl (wanted_none rfl) ?_ (fK (.int .i64 pb) fW (Below.refl _ _) (by rw [hT]; exact rfl))
                  clear fK hE hF
                  go_simp
                refine stepsAll_cons (k := 9) ?_ ?_
                · intro fa fx fW hF fB hE K fK
                  have ev12 : fa.tmps[12]?.getD undef = .int .i64 b := hF.eo 12 (by kernel_rfl)
                  refine wpOp_val rfl (wanted_none rfl) ?_ (fK (.int .i64 b) fW (Below.refl _ _) (by rw [hT]; exact rfl))
                  clear fK hE hF
                  go_simp
                refine stepsAll_cons (k := 10) ?_ ?_
                · intro fa fx fW hF fB hE K fK
                  have q3 : fx 3 = .int .i64 pi := by have q := hE ⟨3, .data⟩ (by simp) rfl; rw [hT] at q; exact q
                  have q4 : fx 4 = .int .i64 i := by have q := hE ⟨4, .data⟩ (by simp) rfl; rw [hT] at q; exact q
                  have q8 : fx 8 = .int .i64 pb := by have q := hE ⟨8, .data⟩ (by simp) rfl; rw [hT] at q; exact q
                  have q9 : fx 9 = .int .i64 b := by have q := hE ⟨9, .data⟩ (by simp) rfl; rw [hT] at q; exact q
                  have ev62 : fa.tmps[62]?.getD undef = .int .i64 pi := (hF.ev 3 62 (by kernel_rfl)).trans q3
                  have ev63 : fa.tmps[63]?.getD undef = .int .i64 i := (hF.ev 4 63 (by kernel_rfl)).trans q4
                  have ev67 : fa.tmps[67]?.getD undef = .int .i64 pb := (hF.ev 8 67 (by kernel_rfl)).trans q8
                  have ev68 : fa.tmps[68]?.getD undef = .int .i64 b := (hF.ev 9 68 (by kernel_rfl)).trans q9
                  refine wpOp_call rfl (wanted_none rfl) (by go_simp; exact ⟨rfl, rfl⟩) ?_
                  refine (HAH.out fW).mono ?_
                  rintro e' w' ⟨rfl, rfl⟩
                  exact ⟨_, rfl, fK (.bool ah) (fW) (Below.refl _ _) (by rw [hT]; exact rfl)⟩
                exact stepsAll_nil
              intro fa fx fW hF fB hx
              have q10 : fx 10 = .bool ah := by have q := hx 10 (by decide); rw [hT] at q; exact q
              have ev69 : fa.tmps[69]?.getD undef = .bool ah := (hF.ev 10 69 (by kernel_rfl)).trans q10
              rw [hF.eq]
              clear hF hx
              simp only [putAll, Act.put, List.setIfInBounds_toArray, List.set_cons_zero, List.set_cons_succ, q10]
              have s5 := own_below s3 fB
              have hch5 := hch3.trans (.of_below fB)
              obtain ⟨W5, rfl⟩ : ∃ x, x = fW := ⟨_, rfl⟩
              obtain ⟨sc5, sf5, ss5⟩ := rowGet s5 hlti
              rw [HGET.out] at sc5
              have s5s := ss5 (si + 1)
              rw [HSET.out] at s5s
              clear fB ss5 s5 ci cb p14 hrt4 s3 hch3
              cases ah with
              | true =>
                have HMN := Lib.hid (fun j hj => HMI.out (by have := HAL.out.1 rfl; rw [HPI.out, HPB.out] at this; exact this) j hj)
                clear HMI HMB HAL
                go_wp2
                obtain ⟨W6, hW6⟩ : ∃ W6, W6 = W5.setCell ⟨g3, i, none⟩ (.int .i64 (si + 1)) := ⟨_, rfl⟩
                have s6 : W6.ownsRow W1.heap.size 3 1 (.slice (some ⟨g3, 0, none⟩) TK TK) TK (nums .i64 (incP since (i + 1))) := by rw [hW6]; exact s5s
                have x6 : W6.cell? ⟨g3, i, none⟩ = some (.int .i64 (si + 1)) := by have := (rowGet s6 hlti).1; rw [HINC.out] at this; exact this
                have hch6 : Chg (fun z => z = g3) W3 W6 := by rw [hW6]; exact hch5.setCell g3 i _ rfl
                have hrt6 := hch6.rds hrt3 (fun a e => by cases e; omega)
                rw [← hW6]
                clear hW6 s5s hch5 sc5 sf5
                obtain ⟨T, hT⟩ : ∃ T : Nat → Fact, ∀ t_, T t_ = ([Fact.eq (.slice (some ⟨g3, 0, none⟩) TK TK), Fact.eq (.int .i64 i), Fact.eq (.pointer (some ⟨g3, i, none⟩)), Fact.eq (.int .i64 (si + 1)), Fact.eq (.slice (some ad) TK TC), Fact.eq (.int .i64 i), Fact.eq (.int .i64 bv), Fact.eq (.bool false)] : List (Fact)).getD t_ Fact.any := ⟨_, fun _ => rfl⟩
                refine region_tab [(0, 77), (1, 78), (2, 79), (3, 80), (4, 81), (5, 82), (6, 83), (7, 84)] T (by kernel_rfl) (by kernel_rfl) (by kernel_rfl) (by kernel_rfl) (by kernel_rfl) ?_ ?_
                · skip
                  refine stepsAll_cons (k := 0) ?_ ?_
                  · intro fa fx fW hF fB hE K fK
                    have ev10 : fa.tmps[10]?.getD undef = .slice (some ⟨g3, 0, none⟩) TK TK := hF.eo 10 (by kernel_rfl)
                    refine wpOp_val rfl (wanted_none rfl) ?_ (fK (.slice (some ⟨g3, 0, none⟩) TK TK) fW (Below.refl _ _) (by rw [hT]; exact rfl))
                    clear fK hE hF
                    go_simp
                  refine stepsAll_cons (k := 1) ?_ ?_
                  · intro fa fx fW hF fB hE K fK
                    have ev13 : fa.tmps[13]?.getD undef = .int .i64 i := hF.eo 13 (by kernel_rfl)
                    refine wpOp_val rfl (wanted_none rfl) ?_ (fK (.int .i64 i) fW (Below.refl _ _) (by rw [hT]; exact rfl))
                    clear fK hE hF
                    go_simp
                  refine stepsAll_cons (k := 2) ?_ ?_
                  · intro fa fx fW hF fB hE K fK
                    have q0 : fx 0 = .slice (some ⟨g3, 0, none⟩) TK TK := by have q := hE ⟨0, .data⟩ (by simp) rfl; rw [hT] at q; exact q
                    have q1 : fx 1 = .int .i64 i := by have q := hE ⟨1, .data⟩ (by simp) rfl; rw [hT] at q; exact q
                    have ev77 : fa.tmps[77]?.getD undef = .slice (some ⟨g3, 0, none⟩) TK TK := (hF.ev 0 77 (by kernel_rfl)).trans q0
                    have ev78 : fa.tmps[78]?.getD undef = .int .i64 i := (hF.ev 1 78 (by kernel_rfl)).trans q1
                    refine wpOp_val rfl (wanted_none rfl) ?_ (fK (.pointer (some ⟨g3, i, none⟩)) fW (Below.refl _ _) (by rw [hT]; exact rfl))
                    clear fK hE hF
                    go_simp
                  refine stepsAll_cons (k := 3) ?_ ?_
                  · intro fa fx fW hF fB hE K fK
                    have q2 : fx 2 = .pointer (some ⟨g3, i, none⟩) := by have q := hE ⟨2, .data⟩ (by simp) rfl; rw [hT] at q; exact q
                    have ev79 : fa.tmps[79]?.getD undef = .pointer (some ⟨g3, i, none⟩) := (hF.ev 2 79 (by kernel_rfl)).trans q2
                    have z := cell_below fB x6
                    refine wpOp_val rfl (wanted_none rfl) ?_ (fK (.int .i64 (si + 1)) fW (Below.refl _ _) (by rw [hT]; exact rfl))
                    clear fK hE hF
                    go_simp
                  refine stepsAll_cons (k := 4) ?_ ?_
                  · intro fa fx fW hF fB hE K fK
                    have ev5 : fa.tmps[5]?.getD undef = .slice (some ad) TK TC := hF.eo 5 (by kernel_rfl)
                    refine wpOp_val rfl (wanted_none rfl) ?_ (fK (.slice (some ad) TK TC) fW (Below.refl _ _) (by rw [hT]; exact rfl))
                    clear fK hE hF
                    go_simp
                  refine stepsAll_cons (k := 5) ?_ ?_
                  · intro fa fx fW hF fB hE K fK
                    have ev13 : fa.tmps[13]?.getD undef = .int .i64 i := hF.eo 13 (by kernel_rfl)
                    refine wpOp_val rfl (wanted_none rfl) ?_ (fK (.int .i64 i) fW (Below.refl _ _) (by rw [hT]; exact rfl))
                    clear fK hE hF
                    go_simp
                  refine stepsAll_cons (k := 6) ?_ ?_
                  · intro fa fx fW hF fB hE K fK
                    have q4 : fx 4 = .slice (some ad) TK TC := by have q := hE ⟨4, .data⟩ (by simp) rfl; rw [hT] at q; exact q
                    have q5 : fx 5 = .int .i64 i := by have q := hE ⟨5, .data⟩ (by simp) rfl; rw [hT] at q; exact q
                    have ev81 : fa.tmps[81]?.getD undef = .slice (some ad) TK TC := (hF.ev 4 81 (by kernel_rfl)).trans q4
                    have ev82 : fa.tmps[82]?.getD undef = .int .i64 i := (hF.ev 5 82 (by kernel_rfl)).trans q5
                    refine wpOp_call rfl (wanted_none rfl) (by go_simp; exact ⟨rfl, rfl⟩) ?_
                    refine (HBO.out fW (hrt6.below fB)).mono ?_
                    rintro e' w' ⟨rfl, hbb⟩
                    exact ⟨_, rfl, fK (.int .i64 bv) (w') (hbb) (by rw [hT]; exact rfl)⟩
                  refine stepsAll_cons (k := 7) ?_ ?_
                  · intro fa fx fW hF fB hE K fK
                    have q3 : fx 3 = .int .i64 (si + 1) := by have q := hE ⟨3, .data⟩ (by simp) rfl; rw [hT] at q; exact q
                    have q6 : fx 6 = .int .i64 bv := by have q := hE ⟨6, .data⟩ (by simp) rfl; rw [hT] at q; exact q
                    have ev80 : fa.tmps[80]?.getD undef = .int .i64 (si + 1) := (hF.ev 3 80 (by kernel_rfl)).trans q3
                    have ev83 : fa.tmps[83]?.getD undef = .int .i64 bv := (hF.ev 6 83 (by kernel_rfl)).trans q6
                    refine wpOp_val rfl (wanted_none rfl) ?_ (fK (.bool false) fW (Below.refl _ _) (by rw [hT]; exact rfl))
                    clear fK hE hF
                    have z := hsb
                    go_simp
                  exact stepsAll_nil
                intro fa fx fW hF fB hx
                have q7 : fx 7 = .bool false := by have q := hx 7 (by decide); rw [hT] at q; exact q
                have ev84 : fa.tmps[84]?.getD undef = .bool false := (hF.ev 7 84 (by kernel_rfl)).trans q7
                rw [hF.eq]
                clear hF hx
                simp only [putAll, Act.put, List.setIfInBounds_toArray, List.set_cons_zero, List.set_cons_succ, q7]
                go_wp2
                go_roundw
                case rel => exact ⟨i + 1, i, by omega, by omega, by go_num, rfl, HMN.out, own_below s6 fB, hch6.trans (.of_below fB)⟩
                case measure => simp only [intOf]; omega
              | false =>
                have HMN := Lib.hid (fun j hj => HMB.out (by have := HAL.out.2 rfl; rw [HPI.out, HPB.out] at this; exact this) j hj)
                clear HMI HMB HAL
                go_wp2
                obtain ⟨W6, hW6⟩ : ∃ W6, W6 = W5.setCell ⟨g3, i, none⟩ (.int .i64 (si + 1)) := ⟨_, rfl⟩
                have s6 : W6.ownsRow W1.heap.size 3 1 (.slice (some ⟨g3, 0, none⟩) TK TK) TK (nums .i64 (incP since (i + 1))) := by rw [hW6]; exact s5s
                have x6 : W6.cell? ⟨g3, i, none⟩ = some (.int .i64 (si + 1)) := by have := (rowGet s6 hlti).1; rw [HINC.out] at this; exact this
                have hch6 : Chg (fun z => z = g3) W3 W6 := by rw [hW6]; exact hch5.setCell g3 i _ rfl
                have hrt6 := hch6.rds hrt3 (fun a e => by cases e; omega)
                rw [← hW6]
                clear hW6 s5s hch5 sc5 sf5
                obtain ⟨T, hT⟩ : ∃ T : Nat → Fact, ∀ t_, T t_ = ([Fact.eq (.slice (some ⟨g3, 0, none⟩) TK TK), Fact.eq (.int .i64 i), Fact.eq (.pointer (some ⟨g3, i, none⟩)), Fact.eq (.int .i64 (si + 1)), Fact.eq (.slice (some ad) TK TC), Fact.eq (.int .i64 i), Fact.eq (.int .i64 bv), Fact.eq (.bool false)] : List (Fact)).getD t_ Fact.any := ⟨_, fun _ => rfl⟩
                refine region_tab [(0, 77), (1, 78), (2, 79), (3, 80), (4, 81), (5, 82), (6, 83), (7, 84)] T (by kernel_rfl) (by kernel_rfl) (by kernel_rfl) (by kernel_rfl) (by kernel_rfl) ?_ ?_
                · skip
                  refine stepsAll_cons (k := 0) ?_ ?_
                  · intro fa fx fW hF fB hE K fK
                    have ev10 : fa.tmps[10]?.getD undef = .slice (some ⟨g3, 0, none⟩) TK TK := hF.eo 10 (by kernel_rfl)
                    refine wpOp_val rfl (wanted_none rfl) ?_ (fK (.slice (some ⟨g3, 0, none⟩) TK TK) fW (Below.refl _ _) (by rw [hT]; exact rfl))
                    clear fK hE hF
                    go_simp
                  refine stepsAll_cons (k := 1) ?_ ?_
                  · intro fa fx fW hF fB hE K fK
                    have ev13 : fa.tmps[13]?.getD undef = .int .i64 i := hF.eo 13 (by kernel_rfl)
                    refine wpOp_val rfl (wanted_none rfl) ?_ (fK (.int .i64 i) fW (Below.refl _ _) (by rw [hT]; exact rfl))
                    clear fK hE hF
                    go_simp
                  refine stepsAll_cons (k := 2) ?_ ?_
                  · intro fa fx fW hF fB hE K fK
                    have q0 : fx 0 = .slice (some ⟨g3, 0, none⟩) TK TK := by have q := hE ⟨0, .data⟩ (by simp) rfl; rw [hT] at q; exact q
                    have q1 : fx 1 = .int .i64 i := by have q := hE ⟨1, .data⟩ (by simp) rfl; rw [hT] at q; exact q
                    have ev77 : fa.tmps[77]?.getD undef = .slice (some ⟨g3, 0, none⟩) TK TK := (hF.ev 0 77 (by kernel_rfl)).trans q0
                    have ev78 : fa.tmps[78]?.getD undef = .int .i64 i := (hF.ev 1 78 (by kernel_rfl)).trans q1
                    refine wpOp_val rfl (wanted_none rfl) ?_ (fK (.pointer (some ⟨g3, i, none⟩)) fW (Below.refl _ _) (by rw [hT]; exact rfl))
                    clear fK hE hF
                    go_simp
                  refine stepsAll_cons (k := 3) ?_ ?_
                  · intro fa fx fW hF fB hE K fK
                    have q2 : fx 2 = .pointer (some ⟨g3, i, none⟩) := by have q := hE ⟨2, .data⟩ (by simp) rfl; rw [hT] at q; exact q
                    have ev79 : fa.tmps[79]?.getD undef = .pointer (some ⟨g3, i, none⟩) := (hF.ev 2 79 (by kernel_rfl)).trans q2
                    have z := cell_below fB x6
                    refine wpOp_val rfl (wanted_none rfl) ?_ (fK (.int .i64 (si + 1)) fW (Below.refl _ _) (by rw [hT]; exact rfl))
                    clear fK hE hF
                    go_simp
                  refine stepsAll_cons (k := 4) ?_ ?_
                  · intro fa fx fW hF fB hE K fK
                    have ev5 : fa.tmps[5]?.getD undef = .slice (some ad) TK TC := hF.eo 5 (by kernel_rfl)
                    refine wpOp_val rfl (wanted_none rfl) ?_ (fK (.slice (some ad) TK TC) fW (Below.refl _ _) (by rw [hT]; exact rfl))
                    clear fK hE hF
                    go_simp
                  refine stepsAll_cons (k := 5) ?_ ?_
                  · intro fa fx fW hF fB hE K fK
                    have ev13 : fa.tmps[13]?.getD undef = .int .i64 i := hF.eo 13 (by kernel_rfl)
                    refine wpOp_val rfl (wanted_none rfl) ?_ (fK (.int .i64 i) fW (Below.refl _ _) (by rw [hT]; exact rfl))
                    clear fK hE hF
                    go_simp
                  refine stepsAll_cons (k := 6) ?_ ?_
                  · intro fa fx fW hF fB hE K fK
                    have q4 : fx 4 = .slice (some ad) TK TC := by have q := hE ⟨4, .data⟩ (by simp) rfl; rw [hT] at q; exact q
                    have q5 : fx 5 = .int .i64 i := by have q := hE ⟨5, .data⟩ (by simp) rfl; rw [hT] at q; exact q
                    have ev81 : fa.tmps[81]?.getD undef = .slice (some ad) TK TC := (hF.ev 4 81 (by kernel_rfl)).trans q4
                    have ev82 : fa.tmps[82]?.getD undef = .int .i64 i := (hF.ev 5 82 (by kernel_rfl)).trans q5
                    refine wpOp_call rfl (wanted_none rfl) (by go_simp; exact ⟨rfl, rfl⟩) ?_
                    refine (HBO.out fW (hrt6.below fB)).mono ?_
                    rintro e' w' ⟨rfl, hbb⟩
                    exact ⟨_, rfl, fK (.int .i64 bv) (w') (hbb) (by rw [hT]; exact rfl)⟩
                  refine stepsAll_cons (k := 7) ?_ ?_
                  · intro fa fx fW hF fB hE K fK
                    have q3 : fx 3 = .int .i64 (si + 1) := by have q := hE ⟨3, .data⟩ (by simp) rfl; rw [hT] at q; exact q
                    have q6 : fx 6 = .int .i64 bv := by have q := hE ⟨6, .data⟩ (by simp) rfl; rw [hT] at q; exact q
                    have ev80 : fa.tmps[80]?.getD undef = .int .i64 (si + 1) := (hF.ev 3 80 (by kernel_rfl)).trans q3
                    have ev83 : fa.tmps[83]?.getD undef = .int .i64 bv := (hF.ev 6 83 (by kernel_rfl)).trans q6
                    refine wpOp_val rfl (wanted_none rfl) ?_ (fK (.bool false) fW (Below.refl _ _) (by rw [hT]; exact rfl))
                    clear fK hE hF
                    have z := hsb
                    go_simp
                  exact stepsAll_nil
                intro fa fx fW hF fB hx
                have q7 : fx 7 = .bool false := by have q := hx 7 (by decide); rw [hT] at q; exact q
                have ev84 : fa.tmps[84]?.getD undef = .bool false := (hF.ev 7 84 (by kernel_rfl)).trans q7
                rw [hF.eq]
                clear hF hx
                simp only [putAll, Act.put, List.setIfInBounds_toArray, List.set_cons_zero, List.set_cons_succ, q7]
                go_wp2
                go_roundw
                case rel => exact ⟨i + 1, b, by omega, by omega, by go_num, rfl, HMN.out, own_below s6 fB, hch6.trans (.of_below fB)⟩
                case measure => simp only [intOf]; omega
            · obtain rfl : i = TK := by omega
              obtain ⟨W4, rfl⟩ : ∃ x, x = wr := ⟨_, rfl⟩
              have p14 := hch3.own p1 (fun z hz => by cases hz; intro e; exact m31 e.symm)
              have p24 := hch3.own p2 (fun z hz => by cases hz; intro e; exact m23 e)
              have hrt4 := hch3.rds hrt3 (fun a e => by cases e; omega)
              rw [incP_all HLS.out] at s3
              have hchW := hch.trans (hch3.mono (S' := fun z => z = g1 ∨ z = g2 ∨ z = g3) (fun _ _ h => .inr (.inr h)))
              have hB4 := hchW.toBelow hB2 hB2.size (fun z hz => by have := hb.size; omega)
              have hnew := HTU.out.step HRT.out (show b < t.length by rw [HTL.out]; exact hbT) (fun j hj => HM.out j (by rw [HTL.out] at hj; exact hj))
              have HNEW := Lib.hid hnew
              have hpb := HP.out b hbT
              have htb := HRT.out.at_ (show b < t.length by rw [HTL.out]; exact hbT)
              have hsd := HRT.out.sd (show b < t.length by rw [HTL.out]; exact hbT)
              have hnb := HTU.out.nn b (show b < t.length by rw [HTL.out]; exact hbT)
              have cb := (rowGet p14 hbT).1
              have HRW := Lib.hid (rowGet p14 hbT)
              have htc := hrt4.cell ad rfl b _ (nums_get .i64 t b (show b < t.length by rw [HTL.out]; exact hbT))
              rw [show t[b]'(show b < t.length by rw [HTL.out]; exact hbT) = t.getD b 0 by simp [List.getD_eq_getElem?_getD, show b < t.length by rw [HTL.out]; exact hbT]] at htc
              have HSTR := Lib.hid (fun W => sstride (t.getD b 0) W)
              have HSD : Hid (strideV (t.getD b 0) = sd t b) := rfl
              rw [HSD.out] at HSTR
              obtain ⟨sb, hsbe⟩ : ∃ sb, sb = sd t b := ⟨_, rfl⟩
              rw [← hsbe] at HSTR hsd HNEW
              obtain ⟨pb, hpbe⟩ : ∃ pb, pb = pass.getD b 0 := ⟨_, rfl⟩
              rw [← hpbe] at cb hpb HNEW HRW
              have hI : I64 (pb + sb) := by unfold I64; omega
              have HCH := Lib.hid (fun W => scharge pb sb (by unfold I64; omega) (by unfold I64; omega) W)
              rw [(fit_yes hI).1, (fit_yes hI).2] at HCH
              have hbb1 : (b : Int) < i := by omega
              generalize t.getD b 0 = tb at *
              have HTB := Lib.hid htb
              clear hnew hI hsbe hpbe HP HS HLS HM HTU htb hch3 hrt3 p1 p2 p3 hch hB3 hpb hsd
              have hQs : ∀ W W' : World, W.ownsRow W1.heap.size 3 1 (.slice (some ⟨g1, 0, none⟩) i i) i (nums .i64 (pass.set b (pb + sb))) → Below W.heap.size W W' → W'.ownsRow W1.heap.size 3 1 (.slice (some ⟨g1, 0, none⟩) i i) i (nums .i64 (pass.set b (pb + sb))) := fun W W' h hb => own_below h hb
              go_wp2
              obtain ⟨S_, hS_⟩ : ∃ S_ : World → World → Prop, S_ = (fun _ _ => True) := ⟨_, rfl⟩
              have hR_ : ∀ W, S_ W W := by intro W; rw [hS_]; exact trivial
              obtain ⟨T, hT⟩ : ∃ T : Nat → FactS S_, ∀ t_, T t_ = ([FactS.eq (.slice (some ⟨g1, 0, none⟩) i i), FactS.eq (.int .i64 b), FactS.eq (.slice (some ⟨g1, 0, none⟩) i i), FactS.eq (.int .i64 b), FactS.eq (.pointer (some ⟨g1, b, none⟩)), FactS.eq (.int .i64 pb), FactS.eq (.slice (some ad) i TC), FactS.eq (.int .i64 b), FactS.eq (.pointer (some (ad.add b))), FactS.eq (.int .i64 tb), FactS.eq (.int .i64 sb), FactS.eq (.tuple #[.int .i64 (pb + sb), .bool true]), FactS.eq (.tuple #[.int .i64 (pb + sb), .bool true]), FactS.eq (.int .i64 (pb + sb)), FactS.eq (.bool true), FactS.eq (.pointer (some ⟨g1, b, none⟩)), FactS.eq (undef)] : List (FactS S_)).getD t_ FactS.any := ⟨_, fun _ => rfl⟩
              have hP_ : ∀ i_ v_ (y_ : Nat → Option Value) W_, ([5, 16].contains i_) = false → (StG W4 g1 (fun W => W.ownsRow W1.heap.size 3 1 (.slice (some ⟨g1, 0, none⟩) i i) i (nums .i64 (pass.set b (pb + sb))))) (y_ 5) (y_ 16) W_ → (StG W4 g1 (fun W => W.ownsRow W1.heap.size 3 1 (.slice (some ⟨g1, 0, none⟩) i i) i (nums .i64 (pass.set b (pb + sb))))) (updY y_ i_ v_ 5) (updY y_ i_ v_ 16) W_ := by
                intro i_ v_ y_ W_ hi_ h_
                simp only [List.contains_cons, List.contains_nil, Bool.or_false, Bool.or_eq_false_iff, beq_eq_false_iff_ne, ne_eq] at hi_
                obtain ⟨i5_, i16_⟩ := hi_
                rw [updY_ne y_ i_ v_ i5_, updY_ne y_ i_ v_ i16_]
                exact h_
              refine region_tabJ [(0, 87), (1, 88), (2, 89), (3, 90), (4, 91), (5, 92), (6, 93), (7, 94), (8, 95), (9, 96), (10, 97), (11, 98), (12, 86), (13, 99), (14, 100), (15, 101)] S_ T (fun y_ W_ => (StG W4 g1 (fun W => W.ownsRow W1.heap.size 3 1 (.slice (some ⟨g1, 0, none⟩) i i) i (nums .i64 (pass.set b (pb + sb))))) (y_ 5) (y_ 16) W_) (by kernel_rfl) (by kernel_rfl) (by kernel_rfl) (by kernel_rfl) (by kernel_rfl) ?_ ?_ ?_
              · skip
                exact ⟨(Chg.refl _ _).drewN 1, fun _ => below_dr (Below.refl _ _) 1, (fun e => by cases e), (fun e => by cases e)⟩
              · skip
                refine stepsAll_cons (k := 0) ?_ ?_
                · intro fa fx fW fy hF hN hJ hE K fK
                  have hJ : (StG W4 g1 (fun W => W.ownsRow W1.heap.size 3 1 (.slice (some ⟨g1, 0, none⟩) i i) i (nums .i64 (pass.set b (pb + sb))))) (fy 5) (fy 16) fW := hJ
                  have ev8 : fa.tmps[8]?.getD undef = .slice (some ⟨g1, 0, none⟩) i i := hF.eo 8 (by kernel_rfl)
                  refine wpOp_val rfl (wanted_none rfl) ?_ (fK (.slice (some ⟨g1, 0, none⟩) i i) fW (hR_ fW) (by rw [hT]; exact rfl) (hP_ 0 _ fy fW rfl hJ))
                  clear fK hE hF hJ hN
                  go_simp
                refine stepsAll_cons (k := 1) ?_ ?_
                · intro fa fx fW fy hF hN hJ hE K fK
                  have hJ : (StG W4 g1 (fun W => W.ownsRow W1.heap.size 3 1 (.slice (some ⟨g1, 0, none⟩) i i) i (nums .i64 (pass.set b (pb + sb))))) (fy 5) (fy 16) fW := hJ
                  have ev12 : fa.tmps[12]?.getD undef = .int .i64 b := hF.eo 12 (by kernel_rfl)
                  refine wpOp_val rfl (wanted_none rfl) ?_ (fK (.int .i64 b) fW (hR_ fW) (by rw [hT]; exact rfl) (hP_ 1 _ fy fW rfl hJ))
                  clear fK hE hF hJ hN
                  go_simp
                refine stepsAll_cons (k := 2) ?_ ?_
                · intro fa fx fW fy hF hN hJ hE K fK
                  have hJ : (StG W4 g1 (fun W => W.ownsRow W1.heap.size 3 1 (.slice (some ⟨g1, 0, none⟩) i i) i (nums .i64 (pass.set b (pb + sb))))) (fy 5) (fy 16) fW := hJ
                  have ev8 : fa.tmps[8]?.getD undef = .slice (some ⟨g1, 0, none⟩) i i := hF.eo 8 (by kernel_rfl)
                  refine wpOp_val rfl (wanted_none rfl) ?_ (fK (.slice (some ⟨g1, 0, none⟩) i i) fW (hR_ fW) (by rw [hT]; exact rfl) (hP_ 2 _ fy fW rfl hJ))
                  clear fK hE hF hJ hN
                  go_simp
                refine stepsAll_cons (k := 3) ?_ ?_
                · intro fa fx fW fy hF hN hJ hE K fK
                  have hJ : (StG W4 g1 (fun W => W.ownsRow W1.heap.size 3 1 (.slice (some ⟨g1, 0, none⟩) i i) i (nums .i64 (pass.set b (pb + sb))))) (fy 5) (fy 16) fW := hJ
                  have ev12 : fa.tmps[12]?.getD undef = .int .i64 b := hF.eo 12 (by kernel_rfl)
                  refine wpOp_val rfl (wanted_none rfl) ?_ (fK (.int .i64 b) fW (hR_ fW) (by rw [hT]; exact rfl) (hP_ 3 _ fy fW rfl hJ))
                  clear fK hE hF hJ hN
                  go_simp
                refine stepsAll_cons (k := 4) ?_ ?_
                · intro fa fx fW fy hF hN hJ hE K fK
                  have hJ : (StG W4 g1 (fun W => W.ownsRow W1.heap.size 3 1 (.slice (some ⟨g1, 0, none⟩) i i) i (nums .i64 (pass.set b (pb + sb))))) (fy 5) (fy 16) fW := hJ
                  have q2 : fx 2 = .slice (some ⟨g1, 0, none⟩) i i := by have q := (hE ⟨2, .data⟩ (by simp) rfl).2; rw [hT] at q; exact q
                  have q3 : fx 3 = .int .i64 b := by have q := (hE ⟨3, .data⟩ (by simp) rfl).2; rw [hT] at q; exact q
                  have ev89 : fa.tmps[89]?.getD undef = .slice (some ⟨g1, 0, none⟩) i i := (hF.ev 2 89 (by kernel_rfl)).trans q2
                  have ev90 : fa.tmps[90]?.getD undef = .int .i64 b := (hF.ev 3 90 (by kernel_rfl)).trans q3
                  refine wpOp_val rfl (wanted_none rfl) ?_ (fK (.pointer (some ⟨g1, b, none⟩)) fW (hR_ fW) (by rw [hT]; exact rfl) (hP_ 4 _ fy fW rfl hJ))
                  clear fK hE hF hJ hN
                  go_simp
                refine stepsAll_cons (k := 5) ?_ ?_
                · intro fa fx fW fy hF hN hJ hE K fK
                  have hJ : (StG W4 g1 (fun W => W.ownsRow W1.heap.size 3 1 (.slice (some ⟨g1, 0, none⟩) i i) i (nums .i64 (pass.set b (pb + sb))))) (fy 5) (fy 16) fW := hJ
                  have q4 : fx 4 = .pointer (some ⟨g1, b, none⟩) := by have q := (hE ⟨4, .data⟩ (by simp) rfl).2; rw [hT] at q; exact q
                  have ev91 : fa.tmps[91]?.getD undef = .pointer (some ⟨g1, b, none⟩) := (hF.ev 4 91 (by kernel_rfl)).trans q4
                  have hJ0 := hJ
                  rw [hN] at hJ0
                  have z := cell_below (hJ.no hJ0.none_) cb
                  refine wpOp_val rfl (wanted_none rfl) ?_ (fK (.int .i64 pb) fW (hR_ fW) (by rw [hT]; exact rfl) ?_)
                  · clear fK hE hF hJ hJ0 hN
                    go_simp
                  · have hc := hJ0.none_
                    show StG _ _ _ (some _) (fy 16) fW
                    exact ⟨hJ.ch, hJ.no, hJ.yes, fun _ => rfl⟩
                refine stepsAll_cons (k := 6) ?_ ?_
                · intro fa fx fW fy hF hN hJ hE K fK
                  have hJ : (StG W4 g1 (fun W => W.ownsRow W1.heap.size 3 1 (.slice (some ⟨g1, 0, none⟩) i i) i (nums .i64 (pass.set b (pb + sb))))) (fy 5) (fy 16) fW := hJ
                  have ev5 : fa.tmps[5]?.getD undef = .slice (some ad) i TC := hF.eo 5 (by kernel_rfl)
                  refine wpOp_val rfl (wanted_none rfl) ?_ (fK (.slice (some ad) i TC) fW (hR_ fW) (by rw [hT]; exact rfl) (hP_ 6 _ fy fW rfl hJ))
                  clear fK hE hF hJ hN
                  go_simp
                refine stepsAll_cons (k := 7) ?_ ?_
                · intro fa fx fW fy hF hN hJ hE K fK
                  have hJ : (StG W4 g1 (fun W => W.ownsRow W1.heap.size 3 1 (.slice (some ⟨g1, 0, none⟩) i i) i (nums .i64 (pass.set b (pb + sb))))) (fy 5) (fy 16) fW := hJ
                  have ev12 : fa.tmps[12]?.getD undef = .int .i64 b := hF.eo 12 (by kernel_rfl)
                  refine wpOp_val rfl (wanted_none rfl) ?_ (fK (.int .i64 b) fW (hR_ fW) (by rw [hT]; exact rfl) (hP_ 7 _ fy fW rfl hJ))
                  clear fK hE hF hJ hN
                  go_simp
                refine stepsAll_cons (k := 8) ?_ ?_
                · intro fa fx fW fy hF hN hJ hE K fK
                  have hJ : (StG W4 g1 (fun W => W.ownsRow W1.heap.size 3 1 (.slice (some ⟨g1, 0, none⟩) i i) i (nums .i64 (pass.set b (pb + sb))))) (fy 5) (fy 16) fW := hJ
                  have q6 : fx 6 = .slice (some ad) i TC := by have q := (hE ⟨6, .data⟩ (by simp) rfl).2; rw [hT] at q; exact q
                  have q7 : fx 7 = .int .i64 b := by have q := (hE ⟨7, .data⟩ (by simp) rfl).2; rw [hT] at q; exact q
                  have ev93 : fa.tmps[93]?.getD undef = .slice (some ad) i TC := (hF.ev 6 93 (by kernel_rfl)).trans q6
                  have ev94 : fa.tmps[94]?.getD undef = .int .i64 b := (hF.ev 7 94 (by kernel_rfl)).trans q7
                  refine wpOp_val rfl (wanted_none rfl) ?_ (fK (.pointer (some (ad.add b))) fW (hR_ fW) (by rw [hT]; exact rfl) (hP_ 8 _ fy fW rfl hJ))
                  clear fK hE hF hJ hN
                  go_simp
                refine stepsAll_cons (k := 9) ?_ ?_
                · intro fa fx fW fy hF hN hJ hE K fK
                  have hJ : (StG W4 g1 (fun W => W.ownsRow W1.heap.size 3 1 (.slice (some ⟨g1, 0, none⟩) i i) i (nums .i64 (pass.set b (pb + sb))))) (fy 5) (fy 16) fW := hJ
                  have q8 : fx 8 = .pointer (some (ad.add b)) := by have q := (hE ⟨8, .data⟩ (by simp) rfl).2; rw [hT] at q; exact q
                  have ev95 : fa.tmps[95]?.getD undef = .pointer (some (ad.add b)) := (hF.ev 8 95 (by kernel_rfl)).trans q8
                  have z := hJ.ch.cell htc (by
                  intro e
                  have e2 : (ad.add b).block = ad.block := by unfold Addr.add; split <;> rfl
                  have e3 : ad.block = g1 := by rw [← e2]; exact e
                  omega)
                  refine wpOp_val rfl (wanted_none rfl) ?_ (fK (.int .i64 tb) fW (hR_ fW) (by rw [hT]; exact rfl) (hP_ 9 _ fy fW rfl hJ))
                  clear fK hE hF hJ hN
                  go_simp
                refine stepsAll_cons (k := 10) ?_ ?_
                · intro fa fx fW fy hF hN hJ hE K fK
                  have hJ : (StG W4 g1 (fun W => W.ownsRow W1.heap.size 3 1 (.slice (some ⟨g1, 0, none⟩) i i) i (nums .i64 (pass.set b (pb + sb))))) (fy 5) (fy 16) fW := hJ
                  have q9 : fx 9 = .int .i64 tb := by have q := (hE ⟨9, .data⟩ (by simp) rfl).2; rw [hT] at q; exact q
                  have ev96 : fa.tmps[96]?.getD undef = .int .i64 tb := (hF.ev 9 96 (by kernel_rfl)).trans q9
                  refine wpOp_call rfl (wanted_none rfl) (by go_simp; exact ⟨rfl, rfl⟩) ?_
                  refine (HSTR.out fW).mono ?_
                  rintro e' w' ⟨rfl, hbb⟩
                  exact ⟨_, rfl, fK (.int .i64 sb) (w') (hS_ ▸ trivial) (by rw [hT]; exact rfl) (hP_ 10 _ fy w' rfl (hJ.stay hQs hbb))⟩
                refine stepsAll_cons (k := 11) ?_ ?_
                · intro fa fx fW fy hF hN hJ hE K fK
                  have hJ : (StG W4 g1 (fun W => W.ownsRow W1.heap.size 3 1 (.slice (some ⟨g1, 0, none⟩) i i) i (nums .i64 (pass.set b (pb + sb))))) (fy 5) (fy 16) fW := hJ
                  have q5 : fx 5 = .int .i64 pb := by have q := (hE ⟨5, .data⟩ (by simp) rfl).2; rw [hT] at q; exact q
                  have y5 : fy 5 = some (fx 5) := (hE ⟨5, .data⟩ (by simp) rfl).1
                  have q10 : fx 10 = .int .i64 sb := by have q := (hE ⟨10, .data⟩ (by simp) rfl).2; rw [hT] at q; exact q
                  have ev92 : fa.tmps[92]?.getD undef = .int .i64 pb := (hF.ev 5 92 (by kernel_rfl)).trans q5
                  have ev97 : fa.tmps[97]?.getD undef = .int .i64 sb := (hF.ev 10 97 (by kernel_rfl)).trans q10
                  refine wpOp_call rfl (wanted_none rfl) (by go_simp; exact ⟨rfl, rfl⟩) ?_
                  refine (HCH.out fW).mono ?_
                  rintro e' w' ⟨rfl, rfl⟩
                  exact ⟨_, rfl, fK (.tuple #[.int .i64 (pb + sb), .bool true]) (fW) (hR_ fW) (by rw [hT]; exact rfl) (hP_ 11 _ fy fW rfl hJ)⟩
                refine stepsAll_cons (k := 12) ?_ ?_
                · intro fa fx fW fy hF hN hJ hE K fK
                  have hJ : (StG W4 g1 (fun W => W.ownsRow W1.heap.size 3 1 (.slice (some ⟨g1, 0, none⟩) i i) i (nums .i64 (pass.set b (pb + sb))))) (fy 5) (fy 16) fW := hJ
                  have q11 : fx 11 = .tuple #[.int .i64 (pb + sb), .bool true] := by have q := (hE ⟨11, .data⟩ (by simp) rfl).2; rw [hT] at q; exact q
                  have ev98 : fa.tmps[98]?.getD undef = .tuple #[.int .i64 (pb + sb), .bool true] := (hF.ev 11 98 (by kernel_rfl)).trans q11
                  refine wpOp_val rfl (wanted_none rfl) ?_ (fK (.tuple #[.int .i64 (pb + sb), .bool true]) fW (hR_ fW) (by rw [hT]; exact rfl) (hP_ 12 _ fy fW rfl hJ))
                  clear fK hE hF hJ hN
                  go_simp
                refine stepsAll_cons (k := 13) ?_ ?_
                · intro fa fx fW fy hF hN hJ hE K fK
                  have hJ : (StG W4 g1 (fun W => W.ownsRow W1.heap.size 3 1 (.slice (some ⟨g1, 0, none⟩) i i) i (nums .i64 (pass.set b (pb + sb))))) (fy 5) (fy 16) fW := hJ
                  have q12 : fx 12 = .tuple #[.int .i64 (pb + sb), .bool true] := by have q := (hE ⟨12, .data⟩ (by simp) rfl).2; rw [hT] at q; exact q
                  have ev86 : fa.tmps[86]?.getD undef = .tuple #[.int .i64 (pb + sb), .bool true] := (hF.ev 12 86 (by kernel_rfl)).trans q12
                  refine wpOp_val rfl (wanted_none rfl) ?_ (fK (.int .i64 (pb + sb)) fW (hR_ fW) (by rw [hT]; exact rfl) (hP_ 13 _ fy fW rfl hJ))
                  clear fK hE hF hJ hN
                  go_simp
                refine stepsAll_cons (k := 14) ?_ ?_
                · intro fa fx fW fy hF hN hJ hE K fK
                  have hJ : (StG W4 g1 (fun W => W.ownsRow W1.heap.size 3 1 (.slice (some ⟨g1, 0, none⟩) i i) i (nums .i64 (pass.set b (pb + sb))))) (fy 5) (fy 16) fW := hJ
                  have q12 : fx 12 = .tuple #[.int .i64 (pb + sb), .bool true] := by have q := (hE ⟨12, .data⟩ (by simp) rfl).2; rw [hT] at q; exact q
                  have ev86 : fa.tmps[86]?.getD undef = .tuple #[.int .i64 (pb + sb), .bool true] := (hF.ev 12 86 (by kernel_rfl)).trans q12
                  refine wpOp_val rfl (wanted_none rfl) ?_ (fK (.bool true) fW (hR_ fW) (by rw [hT]; exact rfl) (hP_ 14 _ fy fW rfl hJ))
                  clear fK hE hF hJ hN
                  go_simp
                refine stepsAll_cons (k := 15) ?_ ?_
                · intro fa fx fW fy hF hN hJ hE K fK
                  have hJ : (StG W4 g1 (fun W => W.ownsRow W1.heap.size 3 1 (.slice (some ⟨g1, 0, none⟩) i i) i (nums .i64 (pass.set b (pb + sb))))) (fy 5) (fy 16) fW := hJ
                  have q0 : fx 0 = .slice (some ⟨g1, 0, none⟩) i i := by have q := (hE ⟨0, .data⟩ (by simp) rfl).2; rw [hT] at q; exact q
                  have q1 : fx 1 = .int .i64 b := by have q := (hE ⟨1, .data⟩ (by simp) rfl).2; rw [hT] at q; exact q
                  have ev87 : fa.tmps[87]?.getD undef = .slice (some ⟨g1, 0, none⟩) i i := (hF.ev 0 87 (by kernel_rfl)).trans q0
                  have ev88 : fa.tmps[88]?.getD undef = .int .i64 b := (hF.ev 1 88 (by kernel_rfl)).trans q1
                  refine wpOp_val rfl (wanted_none rfl) ?_ (fK (.pointer (some ⟨g1, b, none⟩)) fW (hR_ fW) (by rw [hT]; exact rfl) (hP_ 15 _ fy fW rfl hJ))
                  clear fK hE hF hJ hN
                  go_simp
                refine stepsAll_cons (k := 16) ?_ ?_
                · intro fa fx fW fy hF hN hJ hE K fK
                  have hJ : (StG W4 g1 (fun W => W.ownsRow W1.heap.size 3 1 (.slice (some ⟨g1, 0, none⟩) i i) i (nums .i64 (pass.set b (pb + sb))))) (fy 5) (fy 16) fW := hJ
                  have q13 : fx 13 = .int .i64 (pb + sb) := by have q := (hE ⟨13, .data⟩ (by simp) rfl).2; rw [hT] at q; exact q
                  have q15 : fx 15 = .pointer (some ⟨g1, b, none⟩) := by have q := (hE ⟨15, .data⟩ (by simp) rfl).2; rw [hT] at q; exact q
                  have ev99 : fa.tmps[99]?.getD undef = .int .i64 (pb + sb) := (hF.ev 13 99 (by kernel_rfl)).trans q13
                  have ev101 : fa.tmps[101]?.getD undef = .pointer (some ⟨g1, b, none⟩) := (hF.ev 15 101 (by kernel_rfl)).trans q15
                  have hJ0 := hJ
                  rw [hN] at hJ0
                  have hbe := hJ0.no rfl
                  have z := cell_below hbe cb
                  have zf := (World.frozen?_of_block (a := ⟨g1, b, none⟩) (hbe.block g1 (World.block_lt_of_cell? W4 _ cb))).trans HRW.out.2.1
                  refine wpOp_done rfl (wanted_none rfl) (W' := fW.setCell ⟨g1, b, none⟩ (.int .i64 (pb + sb))) ?_ (fK undef _ (by rw [hS_]; trivial) (by rw [hT]; exact rfl) ?_)
                  · clear fK hE hF hJ hJ0 hN hbe
                    go_simp
                  · show StG _ _ _ (fy 5) (some _) _
                    refine ⟨hJ.ch.setCell g1 b _ rfl, (fun e => by cases e), fun _ => (rowGet (own_below p14 hbe) hbT).2.2 (pb + sb), fun _ => ?_⟩
                    rw [(hE ⟨5, .phase⟩ (by simp) rfl).1]; rfl
                exact stepsAll_nil
              intro fa fx fW fy hF hJ0 hx
              have y5 : fy 5 = some (fx 5) := (hx 5 (by decide)).1
              have y16 : fy 16 = some (fx 16) := (hx 16 (by decide)).1
              have hJ : (StG W4 g1 (fun W => W.ownsRow W1.heap.size 3 1 (.slice (some ⟨g1, 0, none⟩) i i) i (nums .i64 (pass.set b (pb + sb))))) (fy 5) (fy 16) fW := hJ0
              clear hJ0
              rw [y5, y16] at hJ
              rw [hF.eq]
              clear hF hx hT T hP_ hR_ y5 y16
              simp only [putAll, Act.put, List.setIfInBounds_toArray, List.set_cons_zero, List.set_cons_succ, ]
              have q1 := hJ.yes rfl
              have hchA := hJ.ch
              obtain ⟨W5, rfl⟩ : ∃ x, x = fW := ⟨_, rfl⟩
              have q2 := hchA.own p24 (fun z hz => by cases hz; intro e; exact m12 e.symm)
              have q3 := hchA.own s3 (fun z hz => by cases hz; exact m31)
              have hrt5 := hchA.rds hrt4 (fun a e => by cases e; omega)
              obtain ⟨nb, hnbe⟩ : ∃ nb, nb = n.getD b 0 := ⟨_, rfl⟩
              obtain ⟨c2, f2, u2⟩ := rowGet q2 hbT
              rw [← hnbe] at hnb HNEW c2
              have r2 := u2 (nb + 1)
              have hchX : Chg (fun z => z = g2) W5 (W5.setCell ⟨g2, b, none⟩ (.int .i64 (nb + 1))) := (Chg.refl _ _).setCell g2 b _ rfl
              have r1 := hchX.own q1 (fun z hz => by cases hz; exact m12)
              have r3 := hchX.own q3 (fun z hz => by cases hz; intro e; exact m23 e.symm)
              have hrt6 := hchX.rds hrt5 (fun a e => by cases e; omega)
              obtain ⟨c3, f3, u3⟩ := rowGet r3 hbT
              have x3 := u3 0
              have hchY : Chg (fun z => z = g3) (W5.setCell ⟨g2, b, none⟩ (.int .i64 (nb + 1))) ((W5.setCell ⟨g2, b, none⟩ (.int .i64 (nb + 1))).setCell ⟨g3, b, none⟩ (.int .i64 0)) := (Chg.refl _ _).setCell g3 b _ rfl
              have x1 := hchY.own r1 (fun z hz => by cases hz; intro e; exact m31 e.symm)
              have x2 := hchY.own r2 (fun z hz => by cases hz; exact m23)
              have hrt7 := hchY.rds hrt6 (fun a e => by cases e; omega)
              have hch7 := ((hchW.trans (hchA.mono (S' := fun z => z = g1 ∨ z = g2 ∨ z = g3) (fun _ _ h => .inl h))).trans (hchX.mono (S' := fun z => z = g1 ∨ z = g2 ∨ z = g3) (fun _ _ h => .inr (.inl h)))).trans (hchY.mono (S' := fun z => z = g1 ∨ z = g2 ∨ z = g3) (fun _ _ h => .inr (.inr h)))
              clear hJ u2 u3 r1 r2 r3 hchX hchY hrt6 hrt5 hrt4 q1 q2 q3 p14 p24 s3 hchW hB4 hchA HRW cb HCH htc HSD HSTR HTB hQs hnbe
              generalize pass.set b (pb + sb) = pass' at *
              generalize n.set b (nb + 1) = n' at *
              generalize (incL since).set b 0 = since' at *
              go_wp2
              obtain ⟨W7, hW7⟩ : ∃ W7, W7 = (W5.setCell ⟨g2, b, none⟩ (.int .i64 (nb + 1))).setCell ⟨g3, b, none⟩ (.int .i64 0) := ⟨_, rfl⟩
              rw [← hW7] at x1 x2 x3 hrt7 hch7 ⊢
              clear hW7 c2 f2 c3 f3
              have htl := HTL.out
              have hTC : i ≤ TC := hrt7.le
              have HLE : Hid (k + 1 ≤ 300) := by show _ ≤ _; omega
              clear hlt hi hk hlti
              go_loopw [113] (fun rv wr => ∃ r : Nat, r ≤ i ∧ rv = .int .i64 r ∧ Below W7.heap.size W7 wr) (fun rv _ => i - (intOf rv).toNat)
              case atStart => exact ⟨0, Nat.zero_le _, rfl, Below.refl _ _⟩
              case round =>
                obtain ⟨r, hr, rfl, hbr⟩ := hrel
                by_cases hlr : r < i
                · have hrC : (r : Int) ≤ TC := by omega
                  go_wp2
                  go_loopw [120] (fun sv wr => ∃ s : Nat, s ≤ r ∧ sv = .int .i64 s ∧ Below W7.heap.size W7 wr) (fun sv _ => r - (intOf sv).toNat)
                  case atStart => exact ⟨0, Nat.zero_le _, rfl, hbr⟩
                  case round =>
                    obtain ⟨s, hs, rfl, hbs⟩ := hrel
                    by_cases hls : s < r
                    · obtain ⟨W8, rfl⟩ : ∃ x, x = wr := ⟨_, rfl⟩
                      have hsi : s < i := by omega
                      have nr := (rowGet (own_below x2 hbs) hlr).1
                      have ns := (rowGet (own_below x2 hbs) hsi).1
                      have hrt8 := hrt7.below hbs
                      have htr := hrt8.cell ad rfl r _ (nums_get .i64 t r (show r < t.length by omega))
                      have hts := hrt8.cell ad rfl s _ (nums_get .i64 t s (show s < t.length by omega))
                      rw [show t[r]'(show r < t.length by omega) = t.getD r 0 by simp [List.getD_eq_getElem?_getD, show r < t.length by omega]] at htr
                      rw [show t[s]'(show s < t.length by omega) = t.getD s 0 by simp [List.getD_eq_getElem?_getD, show s < t.length by omega]] at hts
                      have v1 := HNEW.out.nn r (by omega)
                      have v2 := HNEW.out.nn s (by omega)
                      have v3 := HRT.out.at_ (show r < t.length by omega)
                      have v4 := HRT.out.at_ (show s < t.length by omega)
                      have hnear := HNEW.out.near HRT.out HLE.out (show r < t.length by omega) (show s < t.length by omega)
                      have hkk := HLE.out
                      have HWI := Lib.hid (fun W => swithin (n'.getD r 0) (t.getD r 0) (n'.getD s 0) (t.getD s 0) 1 (by unfold I64; omega) (by unfold I64; omega) (by unfold I64; omega) (by unfold I64; omega) W)
                      rw [hnear] at HWI
                      clear v1 v2 v3 v4 hnear hkk
                      generalize n'.getD r 0 = nr' at *
                      generalize n'.getD s 0 = ns' at *
                      generalize t.getD r 0 = tr' at *
                      generalize t.getD s 0 = ts' at *
                      have hri : (r : Int) < i := by omega
                      have hsi' : (s : Int) < i := by omega
                      go_wp2
                      obtain ⟨T, hT⟩ : ∃ T : Nat → Fact, ∀ t_, T t_ = ([Fact.eq (.slice (some ⟨g2, 0, none⟩) i i), Fact.eq (.int .i64 r), Fact.eq (.pointer (some ⟨g2, r, none⟩)), Fact.eq (.int .i64 nr'), Fact.eq (.slice (some ad) i TC), Fact.eq (.int .i64 r), Fact.eq (.pointer (some (ad.add r))), Fact.eq (.int .i64 tr'), Fact.eq (.slice (some ⟨g2, 0, none⟩) i i), Fact.eq (.int .i64 s), Fact.eq (.pointer (some ⟨g2, s, none⟩)), Fact.eq (.int .i64 ns'), Fact.eq (.slice (some ad) i TC), Fact.eq (.int .i64 s), Fact.eq (.pointer (some (ad.add s))), Fact.eq (.int .i64 ts'), Fact.eq (.bool true), Fact.eq (.bool false)] : List (Fact)).getD t_ Fact.any := ⟨_, fun _ => rfl⟩
                      refine region_tab [(0, 123), (1, 124), (2, 125), (3, 126), (4, 127), (5, 128), (6, 129), (7, 130), (8, 131), (9, 132), (10, 133), (11, 134), (12, 135), (13, 136), (14, 137), (15, 138), (16, 139), (17, 140)] T (by kernel_rfl) (by kernel_rfl) (by kernel_rfl) (by kernel_rfl) (by kernel_rfl) ?_ ?_
                      · skip
                        refine stepsAll_cons (k := 0) ?_ ?_
                        · intro fa fx fW hF fB hE K fK
                          have ev9 : fa.tmps[9]?.getD undef = .slice (some ⟨g2, 0, none⟩) i i := hF.eo 9 (by kernel_rfl)
                          refine wpOp_val rfl (wanted_none rfl) ?_ (fK (.slice (some ⟨g2, 0, none⟩) i i) fW (Below.refl _ _) (by rw [hT]; exact rfl))
                          clear fK hE hF
                          go_simp
                        refine stepsAll_cons (k := 1) ?_ ?_
                        · intro fa fx fW hF fB hE K fK
                          have ev14 : fa.tmps[14]?.getD undef = .int .i64 r := hF.eo 14 (by kernel_rfl)
                          refine wpOp_val rfl (wanted_none rfl) ?_ (fK (.int .i64 r) fW (Below.refl _ _) (by rw [hT]; exact rfl))
                          clear fK hE hF
                          go_simp
                        refine stepsAll_cons (k := 2) ?_ ?_
                        · intro fa fx fW hF fB hE K fK
                          have q0 : fx 0 = .slice (some ⟨g2, 0, none⟩) i i := by have q := hE ⟨0, .data⟩ (by simp) rfl; rw [hT] at q; exact q
                          have q1 : fx 1 = .int .i64 r := by have q := hE ⟨1, .data⟩ (by simp) rfl; rw [hT] at q; exact q
                          have ev123 : fa.tmps[123]?.getD undef = .slice (some ⟨g2, 0, none⟩) i i := (hF.ev 0 123 (by kernel_rfl)).trans q0
                          have ev124 : fa.tmps[124]?.getD undef = .int .i64 r := (hF.ev 1 124 (by kernel_rfl)).trans q1
                          refine wpOp_val rfl (wanted_none rfl) ?_ (fK (.pointer (some ⟨g2, r, none⟩)) fW (Below.refl _ _) (by rw [hT]; exact rfl))
                          clear fK hE hF
                          go_simp
                        refine stepsAll_cons (k := 3) ?_ ?_
                        · intro fa fx fW hF fB hE K fK
                          have q2 : fx 2 = .pointer (some ⟨g2, r, none⟩) := by have q := hE ⟨2, .data⟩ (by simp) rfl; rw [hT] at q; exact q
                          have ev125 : fa.tmps[125]?.getD undef = .pointer (some ⟨g2, r, none⟩) := (hF.ev 2 125 (by kernel_rfl)).trans q2
                          have z := cell_below fB nr
                          refine wpOp_val rfl (wanted_none rfl) ?_ (fK (.int .i64 nr') fW (Below.refl _ _) (by rw [hT]; exact rfl))
                          clear fK hE hF
                          go_simp
                        refine stepsAll_cons (k := 4) ?_ ?_
                        · intro fa fx fW hF fB hE K fK
                          have ev5 : fa.tmps[5]?.getD undef = .slice (some ad) i TC := hF.eo 5 (by kernel_rfl)
                          refine wpOp_val rfl (wanted_none rfl) ?_ (fK (.slice (some ad) i TC) fW (Below.refl _ _) (by rw [hT]; exact rfl))
                          clear fK hE hF
                          go_simp
                        refine stepsAll_cons (k := 5) ?_ ?_
                        · intro fa fx fW hF fB hE K fK
                          have ev14 : fa.tmps[14]?.getD undef = .int .i64 r := hF.eo 14 (by kernel_rfl)
                          refine wpOp_val rfl (wanted_none rfl) ?_ (fK (.int .i64 r) fW (Below.refl _ _) (by rw [hT]; exact rfl))
                          clear fK hE hF
                          go_simp
                        refine stepsAll_cons (k := 6) ?_ ?_
                        · intro fa fx fW hF fB hE K fK
                          have q4 : fx 4 = .slice (some ad) i TC := by have q := hE ⟨4, .data⟩ (by simp) rfl; rw [hT] at q; exact q
                          have q5 : fx 5 = .int .i64 r := by have q := hE ⟨5, .data⟩ (by simp) rfl; rw [hT] at q; exact q
                          have ev127 : fa.tmps[127]?.getD undef = .slice (some ad) i TC := (hF.ev 4 127 (by kernel_rfl)).trans q4
                          have ev128 : fa.tmps[128]?.getD undef = .int .i64 r := (hF.ev 5 128 (by kernel_rfl)).trans q5
                          refine wpOp_val rfl (wanted_none rfl) ?_ (fK (.pointer (some (ad.add r))) fW (Below.refl _ _) (by rw [hT]; exact rfl))
                          clear fK hE hF
                          go_simp
                        refine stepsAll_cons (k := 7) ?_ ?_
                        · intro fa fx fW hF fB hE K fK
                          have q6 : fx 6 = .pointer (some (ad.add r)) := by have q := hE ⟨6, .data⟩ (by simp) rfl; rw [hT] at q; exact q
                          have ev129 : fa.tmps[129]?.getD undef = .pointer (some (ad.add r)) := (hF.ev 6 129 (by kernel_rfl)).trans q6
                          have z := cell_below fB htr
                          refine wpOp_val rfl (wanted_none rfl) ?_ (fK (.int .i64 tr') fW (Below.refl _ _) (by rw [hT]; exact rfl))
                          clear fK hE hF
                          go_simp
                        refine stepsAll_cons (k := 8) ?_ ?_
                        · intro fa fx fW hF fB hE K fK
                          have ev9 : fa.tmps[9]?.getD undef = .slice (some ⟨g2, 0, none⟩) i i := hF.eo 9 (by kernel_rfl)
                          refine wpOp_val rfl (wanted_none rfl) ?_ (fK (.slice (some ⟨g2, 0, none⟩) i i) fW (Below.refl _ _) (by rw [hT]; exact rfl))
                          clear fK hE hF
                          go_simp
                        refine stepsAll_cons (k := 9) ?_ ?_
                        · intro fa fx fW hF fB hE K fK
                          have ev15 : fa.tmps[15]?.getD undef = .int .i64 s := hF.eo 15 (by kernel_rfl)
                          refine wpOp_val rfl (wanted_none rfl) ?_ (fK (.int .i64 s) fW (Below.refl _ _) (by rw [hT]; exact rfl))
                          clear fK hE hF
                          go_simp
                        refine stepsAll_cons (k := 10) ?_ ?_
                        · intro fa fx fW hF fB hE K fK
                          have q8 : fx 8 = .slice (some ⟨g2, 0, none⟩) i i := by have q := hE ⟨8, .data⟩ (by simp) rfl; rw [hT] at q; exact q
                          have q9 : fx 9 = .int .i64 s := by have q := hE ⟨9, .data⟩ (by simp) rfl; rw [hT] at q; exact q
                          have ev131 : fa.tmps[131]?.getD undef = .slice (some ⟨g2, 0, none⟩) i i := (hF.ev 8 131 (by kernel_rfl)).trans q8
                          have ev132 : fa.tmps[132]?.getD undef = .int .i64 s := (hF.ev 9 132 (by kernel_rfl)).trans q9
                          refine wpOp_val rfl (wanted_none rfl) ?_ (fK (.pointer (some ⟨g2, s, none⟩)) fW (Below.refl _ _) (by rw [hT]; exact rfl))
                          clear fK hE hF
                          go_simp
                        refine stepsAll_cons (k := 11) ?_ ?_
                        · intro fa fx fW hF fB hE K fK
                          have q10 : fx 10 = .pointer (some ⟨g2, s, none⟩) := by have q := hE ⟨10, .data⟩ (by simp) rfl; rw [hT] at q; exact q
                          have ev133 : fa.tmps[133]?.getD undef = .pointer (some ⟨g2, s, none⟩) := (hF.ev 10 133 (by kernel_rfl)).trans q10
                          have z := cell_below fB ns
                          refine wpOp_val rfl (wanted_none rfl) ?_ (fK (.int .i64 ns') fW (Below.refl _ _) (by rw [hT]; exact rfl))
                          clear fK hE hF
                          go_simp
                        refine stepsAll_cons (k := 12) ?_ ?_
                        · intro fa fx fW hF fB hE K fK
                          have ev5 : fa.tmps[5]?.getD undef = .slice (some ad) i TC := hF.eo 5 (by kernel_rfl)
                          refine wpOp_val rfl (wanted_none rfl) ?_ (fK (.slice (some ad) i TC) fW (Below.refl _ _) (by rw [hT]; exact rfl))
                          clear fK hE hF
                          go_simp
                        refine stepsAll_cons (k := 13) ?_ ?_
                        · intro fa fx fW hF fB hE K fK
                          have ev15 : fa.tmps[15]?.getD undef = .int .i64 s := hF.eo 15 (by kernel_rfl)
                          refine wpOp_val rfl (wanted_none rfl) ?_ (fK (.int .i64 s) fW (Below.refl _ _) (by rw [hT]; exact rfl))
                          clear fK hE hF
                          go_simp
                        refine stepsAll_cons (k := 14) ?_ ?_
                        · intro fa fx fW hF fB hE K fK
                          have q12 : fx 12 = .slice (some ad) i TC := by have q := hE ⟨12, .data⟩ (by simp) rfl; rw [hT] at q; exact q
                          have q13 : fx 13 = .int .i64 s := by have q := hE ⟨13, .data⟩ (by simp) rfl; rw [hT] at q; exact q
                          have ev135 : fa.tmps[135]?.getD undef = .slice (some ad) i TC := (hF.ev 12 135 (by kernel_rfl)).trans q12
                          have ev136 : fa.tmps[136]?.getD undef = .int .i64 s := (hF.ev 13 136 (by kernel_rfl)).trans q13
                          refine wpOp_val rfl (wanted_none rfl) ?_ (fK (.pointer (some (ad.add s))) fW (Below.refl _ _) (by rw [hT]; exact rfl))
                          clear fK hE hF
                          go_simp
                        refine stepsAll_cons (k := 15) ?_ ?_
                        · intro fa fx fW hF fB hE K fK
                          have q14 : fx 14 = .pointer (some (ad.add s)) := by have q := hE ⟨14, .data⟩ (by simp) rfl; rw [hT] at q; exact q
                          have ev137 : fa.tmps[137]?.getD undef = .pointer (some (ad.add s)) := (hF.ev 14 137 (by kernel_rfl)).trans q14
                          have z := cell_below fB hts
                          refine wpOp_val rfl (wanted_none rfl) ?_ (fK (.int .i64 ts') fW (Below.refl _ _) (by rw [hT]; exact rfl))
                          clear fK hE hF
                          go_simp
                        refine stepsAll_cons (k := 16) ?_ ?_
                        · intro fa fx fW hF fB hE K fK
                          have q3 : fx 3 = .int .i64 nr' := by have q := hE ⟨3, .data⟩ (by simp) rfl; rw [hT] at q; exact q
                          have q7 : fx 7 = .int .i64 tr' := by have q := hE ⟨7, .data⟩ (by simp) rfl; rw [hT] at q; exact q
                          have q11 : fx 11 = .int .i64 ns' := by have q := hE ⟨11, .data⟩ (by simp) rfl; rw [hT] at q; exact q
                          have q15 : fx 15 = .int .i64 ts' := by have q := hE ⟨15, .data⟩ (by simp) rfl; rw [hT] at q; exact q
                          have ev126 : fa.tmps[126]?.getD undef = .int .i64 nr' := (hF.ev 3 126 (by kernel_rfl)).trans q3
                          have ev130 : fa.tmps[130]?.getD undef = .int .i64 tr' := (hF.ev 7 130 (by kernel_rfl)).trans q7
                          have ev134 : fa.tmps[134]?.getD undef = .int .i64 ns' := (hF.ev 11 134 (by kernel_rfl)).trans q11
                          have ev138 : fa.tmps[138]?.getD undef = .int .i64 ts' := (hF.ev 15 138 (by kernel_rfl)).trans q15
                          refine wpOp_call rfl (wanted_none rfl) (by go_simp; exact ⟨rfl, rfl⟩) ?_
                          refine (HWI.out fW).mono ?_
                          rintro e' w' ⟨rfl, hbb⟩
                          exact ⟨_, rfl, fK (.bool true) (w') (hbb) (by rw [hT]; exact rfl)⟩
                        refine stepsAll_cons (k := 17) ?_ ?_
                        · intro fa fx fW hF fB hE K fK
                          have q16 : fx 16 = .bool true := by have q := hE ⟨16, .data⟩ (by simp) rfl; rw [hT] at q; exact q
                          have ev139 : fa.tmps[139]?.getD undef = .bool true := (hF.ev 16 139 (by kernel_rfl)).trans q16
                          refine wpOp_val rfl (wanted_none rfl) ?_ (fK (.bool false) fW (Below.refl _ _) (by rw [hT]; exact rfl))
                          clear fK hE hF
                          go_simp
                        exact stepsAll_nil
                      intro fa fx fW hF fB hx
                      have q17 : fx 17 = .bool false := by have q := hx 17 (by decide); rw [hT] at q; exact q
                      have ev140 : fa.tmps[140]?.getD undef = .bool false := (hF.ev 17 140 (by kernel_rfl)).trans q17
                      rw [hF.eq]
                      clear hF hx
                      simp only [putAll, Act.put, List.setIfInBounds_toArray, List.set_cons_zero, List.set_cons_succ, q17]
                      go_wp2
                      go_roundw
                      case rel => exact ⟨s + 1, by omega, by go_num, below_tr hbs fB⟩
                      case measure => simp only [intOf]; omega
                    · obtain rfl : s = r := by omega
                      go_wp2
                      go_roundw
                      case rel => exact ⟨s + 1, by omega, by go_num, hbs⟩
                      case measure => simp only [intOf]; omega
                · obtain rfl : r = i := by omega
                  go_wp2
                  go_roundw
                  case rel => exact ⟨k + 1, by omega, by go_num, _, _, _, HNEW.out, own_below x1 hbr, own_below x2 hbr, own_below x3 hbr, hch7.trans (.of_below hbr)⟩
                  case measure => simp only [intOf]; omega
        · obtain rfl : k = K := by omega
          have hkq : ¬ (k : Int) < q % 300 := by have := HK.out; omega
          go_wp2_with (go_at_call 9; (with_reducible refine (HL.out _).mono ?_); rintro e w5 ⟨rfl, hb5⟩)
          go_ret
          exact ⟨rfl, below_then hB3 hB3.size hb5⟩
end Go.Proofs.Ytnacfpkagomfaaa
