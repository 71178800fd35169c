/- The law's get: the next value of a source, and the document's. -/
import Derived.Test.YtdhckbpfkdekmaaRefRead
import Derived.Test.YtdhckbpfkdekmaaRegionJ
import Derived.Test.YtdhckbpfkdekmaaInts03
namespace Go.Proofs.Ytdhckbpfkdekmaa
open Go.RowKit
variable {L B C : Nat}
/-- What is asked for. -/
structure AskV where
  k : Int
  a : Int
  d : Int
  n : Nat
  c : Int
def AskV.val (q : AskV) : Value := .agg #[.int .i64 q.k, .int .i64 q.a, .int .i64 q.d, .int .u64 q.n, .int .i64 q.c]
def AskV.ok (q : AskV) : Prop := I64 q.d ∧ I64 q.c
/-- What a source is behind an ask. -/
def askSt (q : AskV) (s : List Int × Int) : List Int × Int :=
  if q.k = 0 then (gotE 0 (fun bs => numM bs q.n) s.1 s.2).2
  else if q.k = 1 then (gotE 0 (fun bs => withinM bs q.a q.d) s.1 s.2).2
  else if q.k = 2 then (gotE [] (fun bs => textM bs q.d) s.1 s.2).2
  else if q.k = 3 then (gotE false flagM s.1 s.2).2
  else if q.k = 4 then (gotE [] (fun bs => intsM bs q.c q.a q.d) s.1 s.2).2
  else (gotE 0 octM s.1 s.2).2
/-- Both sources, and what changed. -/
structure Both (L B C : Nat) (b m : Nat) (w W : World) (s r : List Int × Int) : Prop where
  chg : Chg (fun k => k = b ∨ k = m) w W
  src : Src B W b s.1 s.2
  ref : RSrc L C W m r.1 r.2
theorem Both.s {b m : Nat} {w W W' : World} {s r : List Int × Int} (h : Both L B C b m w W s r) {s' : List Int × Int} (hc : Chg (fun k => k = b) W W') (hs : Src B W' b s'.1 s'.2) (hbm : b ≠ m) (hbL : b < L) : Both L B C b m w W' s' r :=
  ⟨h.chg.trans (hc.mono fun _ _ h => .inl h), hs, h.ref.keep hc (fun e => hbm e.symm) (fun k h1 _ e => by omega)⟩
theorem Both.r {b m : Nat} {w W W' : World} {s r : List Int × Int} (h : Both L B C b m w W s r) {r' : List Int × Int} (hc : Chg (fun k => k = m) W W') (hr : RSrc L C W' m r'.1 r'.2) (hbm : b ≠ m) (hBm : B ≤ m) : Both L B C b m w W' s r' :=
  ⟨h.chg.trans (hc.mono fun _ _ h => .inr h), h.src.keep hc hbm (fun k h1 e => by omega), hr⟩
theorem Both.below {b m : Nat} {w W W' : World} {s r : List Int × Int} (h : Both L B C b m w W s r) (hb : Below W.heap.size W W') : Both L B C b m w W' s r :=
  ⟨h.chg.trans (.of_below hb), h.src.below hb, h.ref.below hb⟩
theorem Both.from {b m : Nat} {w w1 W : World} {s r : List Int × Int} (h : Both L B C b m w1 W s r) (hb : Below w.heap.size w w1) : Both L B C b m w W s r :=
  ⟨(Chg.of_below hb).trans h.chg, h.src, h.ref⟩
/-- The two calls, one behind the other: which of them is done, and what stands. -/
def Duo (L B C : Nat) (b m : Nat) (w : World) (s r s' r' : List Int × Int) (x y : Option Value) (W : World) : Prop :=
  (x = none ∧ y = none ∧ Both L B C b m w W s r) ∨ (x ≠ none ∧ y = none ∧ Both L B C b m w W s' r) ∨ (x ≠ none ∧ y ≠ none ∧ Both L B C b m w W s' r')
theorem Duo.chg {b m : Nat} {w : World} {s r s' r' : List Int × Int} {x y : Option Value} {W : World} (h : Duo L B C b m w s r s' r' x y W) : Chg (fun k => k = b ∨ k = m) w W := by
  rcases h with ⟨_, _, h⟩ | ⟨_, _, h⟩ | ⟨_, _, h⟩ <;> exact h.chg
theorem Duo.cell {b m : Nat} {w : World} {s r s' r' : List Int × Int} {x y : Option Value} {W : World} (h : Duo L B C b m w s r s' r' x y W) {k o : Nat} {v : Value} (hc : w.cell? ⟨k, o, none⟩ = some v) (h1 : k ≠ b) (h2 : k ≠ m) : W.cell? ⟨k, o, none⟩ = some v :=
  h.chg.cell hc (fun h => h.elim h1 h2)
theorem Duo.first {b m : Nat} {w : World} {s r s' r' : List Int × Int} {y : Option Value} {W : World} (h : Duo L B C b m w s r s' r' none y W) : y = none ∧ Both L B C b m w W s r := by
  rcases h with ⟨_, h2, h⟩ | ⟨h1, _, _⟩ | ⟨h1, _, _⟩
  · exact ⟨h2, h⟩
  · exact absurd rfl h1
  · exact absurd rfl h1
theorem Duo.second {b m : Nat} {w : World} {s r s' r' : List Int × Int} {x : Value} {W : World} (h : Duo L B C b m w s r s' r' (some x) none W) : Both L B C b m w W s' r := by
  rcases h with ⟨h1, _, h⟩ | ⟨_, _, h⟩ | ⟨_, h1, _⟩
  · cases h1
  · exact h
  · exact absurd rfl h1
theorem Duo.third {b m : Nat} {w : World} {s r s' r' : List Int × Int} {x y : Value} {W : World} (h : Duo L B C b m w s r s' r' (some x) (some y) W) : Both L B C b m w W s' r' := by
  rcases h with ⟨h1, _, h⟩ | ⟨_, h1, h⟩ | ⟨_, _, h⟩
  · cases h1
  · cases h1
  · exact h
/-- What the law's get leaves. -/
def GetsB (L B C : Nat) (b m : Nat) (w : World) (q : AskV) (s r : List Int × Int) (e : Ending) (w' : World) : Prop :=
  ∃ t, e = .returned (.bool t) ∧ (s = r → t = true) ∧ Both L B C b m w w' (askSt q s) (askSt q r)
/-- What the walk of get begins with. -/
structure Go7 (L B C : Nat) (b m : Nat) (w : World) (s r : List Int × Int) : Prop where
  src : Src B w b s.1 s.2
  ref : RSrc L C w m r.1 r.2
  us : U8s s.1 ∧ s.1.length ≤ 1000000
  ur : U8s r.1 ∧ r.1.length ≤ 1000000
  bl : b < L
  lm : L ≤ m
  bL : B ≤ L
  mc : m < C
  cw : C ≤ w.heap.size
set_option maxRecDepth 100000 in
set_option maxHeartbeats 8000000 in
theorem lawGet0 (b m : Nat) (k a d c : Int) (n : Nat) (hk : k = 0) (_ : I64 d ∧ I64 c) (s r : List Int × Int) (w : World) (H : Go7 L B C b m w s r) :
    Calls Try.prog 31 #[.pointer (some ⟨b, 0, none⟩), .pointer (some ⟨m, 0, none⟩), .agg #[.int .i64 k, .int .i64 a, .int .i64 d, .int .u64 n, .int .i64 c]] w (GetsB L B C b m w ⟨k, a, d, n, c⟩ s r) := by
  subst hk
  obtain ⟨g1, g2, g3, g4, g5, g6, g7, g8, g9⟩ := H
  have hbw := g1.made.lt
  have hmw := g2.err.lt
  have hbm : b ≠ m := by omega
  obtain ⟨W0, hW0⟩ : ∃ W0, W0 = w.alloc (.cells #[.int .i64 0, .int .i64 a, .int .i64 d, .int .u64 n, .int .i64 c] 42) := ⟨_, rfl⟩
  have hal : Below w.heap.size w W0 := by rw [hW0]; exact below_al (Below.refl _ _) _
  have hz0 : w.heap.size + 1 = W0.heap.size := by rw [hW0]; simp
  have x3 : W0.cell? ⟨w.heap.size, 3, none⟩ = some (.int .u64 n) := by rw [hW0]; go_simp
  have HB : Hid (Both L B C b m W0 W0 s r) := ⟨Chg.refl _ _, g1.below hal, g2.below hal⟩
  have e1 : askSt ⟨0, a, d, n, c⟩ s = (gotE 0 (fun bs => numM bs n) s.1 s.2).2 := by simp [askSt]
  have e2 : askSt ⟨0, a, d, n, c⟩ r = (gotE 0 (fun bs => numM bs n) r.1 r.2).2 := by simp [askSt]
  have HS := Lib.hid (fun (W : World) (h : Src B W b s.1 s.2) (hB : B ≤ W.heap.size) => srcNum' b n s.2 s.1 W h hB g3.1)
  have HR := Lib.hid (fun (W : World) (h : RSrc L C W m r.1 r.2) (hC : C ≤ W.heap.size) => refNum m n r.2 r.1 W h g4.1 g4.2)
  generalize hs1 : gotE 0 (fun bs => numM bs n) s.1 s.2 = S1 at e1 HS
  generalize hr1 : gotE 0 (fun bs => numM bs n) r.1 r.2 = R1 at e2 HR
  obtain ⟨v1, s1⟩ := S1
  obtain ⟨v2, r1⟩ := R1
  have HT : Hid (s = r → v1 = v2) := by
    intro h
    rw [h] at hs1
    rw [hs1] at hr1
    exact congrArg Prod.fst hr1
  have HQ : Hid (askSt ⟨0, a, d, n, c⟩ s = s1 ∧ askSt ⟨0, a, d, n, c⟩ r = r1) := ⟨e1, e2⟩
  clear hs1 hr1 e1 e2 g1 g2 g3 g4
  go_enter Try.func31, Try.ntmps31
  go_wp2
  rw [← hW0]
  obtain ⟨G, hG⟩ : ∃ G : Option Value → Option Value → World → Prop, ∀ x y W, G x y W = Duo L B C b m W0 s r s1 r1 x y W := ⟨_, fun _ _ _ => rfl⟩
  obtain ⟨S_, hS_⟩ : ∃ S_ : World → World → Prop, S_ = (fun _ _ => True) := ⟨_, rfl⟩
  have hR_ : ∀ W, S_ W W := by intro W; rw [hS_]; exact trivial
  obtain ⟨T, hT⟩ : ∃ T : Nat → FactS S_, ∀ t_, T t_ = ([FactS.eq (.pointer (some ⟨b, 0, none⟩)), FactS.eq (.pointer (some ⟨w.heap.size, 3, none⟩)), FactS.eq (.int .u64 n), FactS.eq (.int .u64 (v1 : Nat)), FactS.eq (.pointer (some ⟨m, 0, none⟩)), FactS.eq (.pointer (some ⟨w.heap.size, 3, none⟩)), FactS.eq (.int .u64 n), FactS.eq (.int .u64 (v2 : Nat)), FactS.eq (.bool ((v1 : Int) == (v2 : Int))), FactS.eq (.bool ((v1 : Int) == (v2 : Int)))] : List (FactS S_)).getD t_ FactS.any := ⟨_, fun _ => rfl⟩
  have hP_ : ∀ i_ v_ (y_ : Nat → Option Value) W_, ([3, 7].contains i_) = false → G (y_ 3) (y_ 7) W_ → G (updY y_ i_ v_ 3) (updY y_ i_ v_ 7) W_ := by
    intro i_ v_ y_ W_ hi_ h_
    simp only [List.contains_cons, List.contains_nil, Bool.or_false, Bool.or_eq_false_iff, beq_eq_false_iff_ne, ne_eq] at hi_
    obtain ⟨i3_, i7_⟩ := hi_
    rw [updY_ne y_ i_ v_ i3_, updY_ne y_ i_ v_ i7_]
    exact h_
  refine region_tabJ [(0, 11), (1, 12), (2, 13), (3, 14), (4, 15), (5, 16), (6, 17), (7, 18), (8, 19), (9, 6)] S_ T (fun y_ W_ => G (y_ 3) (y_ 7) W_) (by kernel_rfl) (by kernel_rfl) (by kernel_rfl) (by kernel_rfl) (by kernel_rfl) ?_ ?_ ?_
  · skip
    show G none none _
    rw [hG]
    exact .inl ⟨rfl, rfl, HB.out.below (below_dr (Below.refl _ _) _)⟩
  · skip
    refine stepsAll_cons (k := 0) ?_ ?_
    · intro fa fx fW fy hF hN hJ hE K fK
      have hJ : G (fy 3) (fy 7) fW := hJ
      have ev0 : fa.tmps[0]?.getD undef = .pointer (some ⟨b, 0, none⟩) := hF.eo 0 (by kernel_rfl)
      refine wpOp_val rfl (wanted_none rfl) ?_ (fK (.pointer (some ⟨b, 0, none⟩)) fW (hR_ fW) (by rw [hT]; exact rfl) (hP_ 0 _ fy fW rfl hJ))
      clear fK hE hF hJ hN
      go_simp
    refine stepsAll_cons (k := 1) ?_ ?_
    · intro fa fx fW fy hF hN hJ hE K fK
      have hJ : G (fy 3) (fy 7) fW := hJ
      have ev5 : fa.tmps[5]?.getD undef = .pointer (some ⟨w.heap.size, 0, none⟩) := hF.eo 5 (by kernel_rfl)
      refine wpOp_val rfl (wanted_none rfl) ?_ (fK (.pointer (some ⟨w.heap.size, 3, none⟩)) fW (hR_ fW) (by rw [hT]; exact rfl) (hP_ 1 _ fy fW rfl hJ))
      clear fK hE hF hJ hN
      go_simp
    refine stepsAll_cons (k := 2) ?_ ?_
    · intro fa fx fW fy hF hN hJ hE K fK
      have hJ : G (fy 3) (fy 7) fW := hJ
      have q1 : fx 1 = .pointer (some ⟨w.heap.size, 3, none⟩) := by have q := (hE ⟨1, .data⟩ (by simp) rfl).2; rw [hT] at q; exact q
      have ev12 : fa.tmps[12]?.getD undef = .pointer (some ⟨w.heap.size, 3, none⟩) := (hF.ev 1 12 (by kernel_rfl)).trans q1
      have hJ2 := hJ
      rw [hG] at hJ2
      have y0 := hJ2.cell x3 (by omega) (by omega)
      clear hJ2
      refine wpOp_val rfl (wanted_none rfl) ?_ (fK (.int .u64 n) fW (hR_ fW) (by rw [hT]; exact rfl) (hP_ 2 _ fy fW rfl hJ))
      clear fK hE hF hJ hN
      go_simp
    refine stepsAll_cons (k := 3) ?_ ?_
    · intro fa fx fW fy hF hN hJ hE K fK
      have hJ : G (fy 3) (fy 7) fW := hJ
      have q0 : fx 0 = .pointer (some ⟨b, 0, none⟩) := by have q := (hE ⟨0, .data⟩ (by simp) rfl).2; rw [hT] at q; exact q
      have q2 : fx 2 = .int .u64 n := by have q := (hE ⟨2, .data⟩ (by simp) rfl).2; rw [hT] at q; exact q
      have ev11 : fa.tmps[11]?.getD undef = .pointer (some ⟨b, 0, none⟩) := (hF.ev 0 11 (by kernel_rfl)).trans q0
      have ev13 : fa.tmps[13]?.getD undef = .int .u64 n := (hF.ev 2 13 (by kernel_rfl)).trans q2
      refine wpOp_call rfl (wanted_none rfl) (by go_simp; exact ⟨rfl, rfl⟩) ?_
      rw [hG, hN] at hJ
      obtain ⟨hy, hJ1⟩ := hJ.first
      refine (HS.out fW hJ1.src (by have := hJ1.chg.size; omega)).mono ?_
      rintro e' w' ⟨rfl, hc, hs⟩
      have b1 : S_ fW w' := by rw [hS_]; trivial
      have j1 : G (some (.int .u64 (v1 : Nat))) (fy 7) w' := by rw [hG, hy]; exact .inr (.inl ⟨by simp, rfl, hJ1.s hc hs hbm g5⟩)
      exact ⟨_, rfl, fK (.int .u64 (v1 : Nat)) (w') (b1) (by rw [hT]; exact rfl) (j1)⟩
    refine stepsAll_cons (k := 4) ?_ ?_
    · intro fa fx fW fy hF hN hJ hE K fK
      have hJ : G (fy 3) (fy 7) fW := hJ
      have ev1 : fa.tmps[1]?.getD undef = .pointer (some ⟨m, 0, none⟩) := hF.eo 1 (by kernel_rfl)
      refine wpOp_val rfl (wanted_none rfl) ?_ (fK (.pointer (some ⟨m, 0, none⟩)) fW (hR_ fW) (by rw [hT]; exact rfl) (hP_ 4 _ fy fW rfl hJ))
      clear fK hE hF hJ hN
      go_simp
    refine stepsAll_cons (k := 5) ?_ ?_
    · intro fa fx fW fy hF hN hJ hE K fK
      have hJ : G (fy 3) (fy 7) fW := hJ
      have ev5 : fa.tmps[5]?.getD undef = .pointer (some ⟨w.heap.size, 0, none⟩) := hF.eo 5 (by kernel_rfl)
      refine wpOp_val rfl (wanted_none rfl) ?_ (fK (.pointer (some ⟨w.heap.size, 3, none⟩)) fW (hR_ fW) (by rw [hT]; exact rfl) (hP_ 5 _ fy fW rfl hJ))
      clear fK hE hF hJ hN
      go_simp
    refine stepsAll_cons (k := 6) ?_ ?_
    · intro fa fx fW fy hF hN hJ hE K fK
      have hJ : G (fy 3) (fy 7) fW := hJ
      have q5 : fx 5 = .pointer (some ⟨w.heap.size, 3, none⟩) := by have q := (hE ⟨5, .data⟩ (by simp) rfl).2; rw [hT] at q; exact q
      have ev16 : fa.tmps[16]?.getD undef = .pointer (some ⟨w.heap.size, 3, none⟩) := (hF.ev 5 16 (by kernel_rfl)).trans q5
      have hJ2 := hJ
      rw [hG] at hJ2
      have y0 := hJ2.cell x3 (by omega) (by omega)
      clear hJ2
      refine wpOp_val rfl (wanted_none rfl) ?_ (fK (.int .u64 n) fW (hR_ fW) (by rw [hT]; exact rfl) (hP_ 6 _ fy fW rfl hJ))
      clear fK hE hF hJ hN
      go_simp
    refine stepsAll_cons (k := 7) ?_ ?_
    · intro fa fx fW fy hF hN hJ hE K fK
      have hJ : G (fy 3) (fy 7) fW := hJ
      have q3 : fx 3 = .int .u64 (v1 : Nat) := by have q := (hE ⟨3, .chain⟩ (by simp) rfl).2; rw [hT] at q; exact q
      have y3 : fy 3 = some (fx 3) := (hE ⟨3, .chain⟩ (by simp) rfl).1
      have q4 : fx 4 = .pointer (some ⟨m, 0, none⟩) := by have q := (hE ⟨4, .data⟩ (by simp) rfl).2; rw [hT] at q; exact q
      have q6 : fx 6 = .int .u64 n := by have q := (hE ⟨6, .data⟩ (by simp) rfl).2; rw [hT] at q; exact q
      have ev15 : fa.tmps[15]?.getD undef = .pointer (some ⟨m, 0, none⟩) := (hF.ev 4 15 (by kernel_rfl)).trans q4
      have ev17 : fa.tmps[17]?.getD undef = .int .u64 n := (hF.ev 6 17 (by kernel_rfl)).trans q6
      refine wpOp_call rfl (wanted_none rfl) (by go_simp; exact ⟨rfl, rfl⟩) ?_
      rw [hG, y3, hN] at hJ
      have hJ1 := hJ.second
      refine (HR.out fW hJ1.ref (by have := hJ1.chg.size; omega)).mono ?_
      rintro e' w' ⟨rfl, hc, hs⟩
      have b1 : S_ fW w' := by rw [hS_]; trivial
      have j1 : G (fy 3) (some (.int .u64 (v2 : Nat))) w' := by rw [hG, y3]; exact .inr (.inr ⟨by simp, by simp, hJ1.r hc hs hbm (by omega)⟩)
      exact ⟨_, rfl, fK (.int .u64 (v2 : Nat)) (w') (b1) (by rw [hT]; exact rfl) (j1)⟩
    refine stepsAll_cons (k := 8) ?_ ?_
    · intro fa fx fW fy hF hN hJ hE K fK
      have hJ : G (fy 3) (fy 7) fW := hJ
      have q3 : fx 3 = .int .u64 (v1 : Nat) := by have q := (hE ⟨3, .data⟩ (by simp) rfl).2; rw [hT] at q; exact q
      have y3 : fy 3 = some (fx 3) := (hE ⟨3, .data⟩ (by simp) rfl).1
      have q7 : fx 7 = .int .u64 (v2 : Nat) := by have q := (hE ⟨7, .data⟩ (by simp) rfl).2; rw [hT] at q; exact q
      have y7 : fy 7 = some (fx 7) := (hE ⟨7, .data⟩ (by simp) rfl).1
      have ev14 : fa.tmps[14]?.getD undef = .int .u64 (v1 : Nat) := (hF.ev 3 14 (by kernel_rfl)).trans q3
      have ev18 : fa.tmps[18]?.getD undef = .int .u64 (v2 : Nat) := (hF.ev 7 18 (by kernel_rfl)).trans q7
      refine wpOp_val rfl (wanted_none rfl) ?_ (fK (.bool ((v1 : Int) == (v2 : Int))) fW (hR_ fW) (by rw [hT]; exact rfl) (hP_ 8 _ fy fW rfl hJ))
      clear fK hE hF hJ hN
      go_simp
    refine stepsAll_cons (k := 9) ?_ ?_
    · intro fa fx fW fy hF hN hJ hE K fK
      have hJ : G (fy 3) (fy 7) fW := hJ
      have q8 : fx 8 = .bool ((v1 : Int) == (v2 : Int)) := by have q := (hE ⟨8, .data⟩ (by simp) rfl).2; rw [hT] at q; exact q
      have ev19 : fa.tmps[19]?.getD undef = .bool ((v1 : Int) == (v2 : Int)) := (hF.ev 8 19 (by kernel_rfl)).trans q8
      refine wpOp_val rfl (wanted_none rfl) ?_ (fK (.bool ((v1 : Int) == (v2 : Int))) fW (hR_ fW) (by rw [hT]; exact rfl) (hP_ 9 _ fy fW rfl hJ))
      clear fK hE hF hJ hN
      go_simp
    exact stepsAll_nil
  intro fa fx fW fy hF hJ0 hx
  have y3 : fy 3 = some (fx 3) := (hx 3 (by decide)).1
  have y7 : fy 7 = some (fx 7) := (hx 7 (by decide)).1
  have hJ : G (fy 3) (fy 7) fW := hJ0
  clear hJ0
  rw [y3, y7] at hJ
  have q9 : fx 9 = .bool ((v1 : Int) == (v2 : Int)) := by have q := (hx 9 (by decide)).2; rw [hT] at q; exact q
  have ev6 : fa.tmps[6]?.getD undef = .bool ((v1 : Int) == (v2 : Int)) := (hF.ev 9 6 (by kernel_rfl)).trans q9
  rw [hF.eq]
  clear hF hx hT T hP_ hR_ y3 y7
  simp only [putAll, Act.put, List.setIfInBounds_toArray, List.set_cons_zero, List.set_cons_succ, q9]
  rw [hG] at hJ
  have hJ1 := hJ.third
  go_wp2
  go_ret
  refine ⟨_, rfl, fun h => ?_, ?_⟩
  · rw [HT.out h]; simp
  · rw [HQ.out.1, HQ.out.2]; exact hJ1.from hal
set_option maxRecDepth 100000 in
set_option maxHeartbeats 8000000 in
theorem lawGet1 (b m : Nat) (k a d c : Int) (n : Nat) (hk : k = 1) (_ : I64 d ∧ I64 c) (s r : List Int × Int) (w : World) (H : Go7 L B C b m w s r) :
    Calls Try.prog 31 #[.pointer (some ⟨b, 0, none⟩), .pointer (some ⟨m, 0, none⟩), .agg #[.int .i64 k, .int .i64 a, .int .i64 d, .int .u64 n, .int .i64 c]] w (GetsB L B C b m w ⟨k, a, d, n, c⟩ s r) := by
  subst hk
  obtain ⟨g1, g2, g3, g4, g5, g6, g7, g8, g9⟩ := H
  have hbw := g1.made.lt
  have hmw := g2.err.lt
  have hbm : b ≠ m := by omega
  obtain ⟨W0, hW0⟩ : ∃ W0, W0 = w.alloc (.cells #[.int .i64 1, .int .i64 a, .int .i64 d, .int .u64 n, .int .i64 c] 42) := ⟨_, rfl⟩
  have hal : Below w.heap.size w W0 := by rw [hW0]; exact below_al (Below.refl _ _) _
  have hz0 : w.heap.size + 1 = W0.heap.size := by rw [hW0]; simp
  have x1 : W0.cell? ⟨w.heap.size, 1, none⟩ = some (.int .i64 a) := by rw [hW0]; go_simp
  have x2 : W0.cell? ⟨w.heap.size, 2, none⟩ = some (.int .i64 d) := by rw [hW0]; go_simp
  have HB : Hid (Both L B C b m W0 W0 s r) := ⟨Chg.refl _ _, g1.below hal, g2.below hal⟩
  have e1 : askSt ⟨1, a, d, n, c⟩ s = (gotE 0 (fun bs => withinM bs a d) s.1 s.2).2 := by simp [askSt]
  have e2 : askSt ⟨1, a, d, n, c⟩ r = (gotE 0 (fun bs => withinM bs a d) r.1 r.2).2 := by simp [askSt]
  have HS := Lib.hid (fun (W : World) (h : Src B W b s.1 s.2) (hB : B ≤ W.heap.size) => srcInt' b a d s.2 s.1 W h hB g3.1)
  have HR := Lib.hid (fun (W : World) (h : RSrc L C W m r.1 r.2) (hC : C ≤ W.heap.size) => refInt m a d r.2 r.1 W h g4.1 g4.2)
  generalize hs1 : gotE 0 (fun bs => withinM bs a d) s.1 s.2 = S1 at e1 HS
  generalize hr1 : gotE 0 (fun bs => withinM bs a d) r.1 r.2 = R1 at e2 HR
  obtain ⟨v1, s1⟩ := S1
  obtain ⟨v2, r1⟩ := R1
  have HT : Hid (s = r → v1 = v2) := by
    intro h
    rw [h] at hs1
    rw [hs1] at hr1
    exact congrArg Prod.fst hr1
  have HQ : Hid (askSt ⟨1, a, d, n, c⟩ s = s1 ∧ askSt ⟨1, a, d, n, c⟩ r = r1) := ⟨e1, e2⟩
  clear hs1 hr1 e1 e2 g1 g2 g3 g4
  go_enter Try.func31, Try.ntmps31
  go_wp2
  rw [← hW0]
  obtain ⟨G, hG⟩ : ∃ G : Option Value → Option Value → World → Prop, ∀ x y W, G x y W = Duo L B C b m W0 s r s1 r1 x y W := ⟨_, fun _ _ _ => rfl⟩
  obtain ⟨S_, hS_⟩ : ∃ S_ : World → World → Prop, S_ = (fun _ _ => True) := ⟨_, rfl⟩
  have hR_ : ∀ W, S_ W W := by intro W; rw [hS_]; exact trivial
  obtain ⟨T, hT⟩ : ∃ T : Nat → FactS S_, ∀ t_, T t_ = ([FactS.eq (.pointer (some ⟨b, 0, none⟩)), FactS.eq (.pointer (some ⟨w.heap.size, 1, none⟩)), FactS.eq (.int .i64 a), FactS.eq (.pointer (some ⟨w.heap.size, 2, none⟩)), FactS.eq (.int .i64 d), FactS.eq (.int .i64 v1), FactS.eq (.pointer (some ⟨m, 0, none⟩)), FactS.eq (.pointer (some ⟨w.heap.size, 1, none⟩)), FactS.eq (.int .i64 a), FactS.eq (.pointer (some ⟨w.heap.size, 2, none⟩)), FactS.eq (.int .i64 d), FactS.eq (.int .i64 v2), FactS.eq (.bool (v1 == v2)), FactS.eq (.bool (v1 == v2))] : List (FactS S_)).getD t_ FactS.any := ⟨_, fun _ => rfl⟩
  have hP_ : ∀ i_ v_ (y_ : Nat → Option Value) W_, ([5, 11].contains i_) = false → G (y_ 5) (y_ 11) W_ → G (updY y_ i_ v_ 5) (updY y_ i_ v_ 11) W_ := by
    intro i_ v_ y_ W_ hi_ h_
    simp only [List.contains_cons, List.contains_nil, Bool.or_false, Bool.or_eq_false_iff, beq_eq_false_iff_ne, ne_eq] at hi_
    obtain ⟨i5_, i11_⟩ := hi_
    rw [updY_ne y_ i_ v_ i5_, updY_ne y_ i_ v_ i11_]
    exact h_
  refine region_tabJ [(0, 22), (1, 23), (2, 24), (3, 25), (4, 26), (5, 27), (6, 28), (7, 29), (8, 30), (9, 31), (10, 32), (11, 33), (12, 34), (13, 6)] S_ T (fun y_ W_ => G (y_ 5) (y_ 11) W_) (by kernel_rfl) (by kernel_rfl) (by kernel_rfl) (by kernel_rfl) (by kernel_rfl) ?_ ?_ ?_
  · skip
    show G none none _
    rw [hG]
    exact .inl ⟨rfl, rfl, HB.out.below (below_dr (Below.refl _ _) _)⟩
  · skip
    refine stepsAll_cons (k := 0) ?_ ?_
    · intro fa fx fW fy hF hN hJ hE K fK
      have hJ : G (fy 5) (fy 11) fW := hJ
      have ev0 : fa.tmps[0]?.getD undef = .pointer (some ⟨b, 0, none⟩) := hF.eo 0 (by kernel_rfl)
      refine wpOp_val rfl (wanted_none rfl) ?_ (fK (.pointer (some ⟨b, 0, none⟩)) fW (hR_ fW) (by rw [hT]; exact rfl) (hP_ 0 _ fy fW rfl hJ))
      clear fK hE hF hJ hN
      go_simp
    refine stepsAll_cons (k := 1) ?_ ?_
    · intro fa fx fW fy hF hN hJ hE K fK
      have hJ : G (fy 5) (fy 11) fW := hJ
      have ev5 : fa.tmps[5]?.getD undef = .pointer (some ⟨w.heap.size, 0, none⟩) := hF.eo 5 (by kernel_rfl)
      refine wpOp_val rfl (wanted_none rfl) ?_ (fK (.pointer (some ⟨w.heap.size, 1, none⟩)) fW (hR_ fW) (by rw [hT]; exact rfl) (hP_ 1 _ fy fW rfl hJ))
      clear fK hE hF hJ hN
      go_simp
    refine stepsAll_cons (k := 2) ?_ ?_
    · intro fa fx fW fy hF hN hJ hE K fK
      have hJ : G (fy 5) (fy 11) fW := hJ
      have q1 : fx 1 = .pointer (some ⟨w.heap.size, 1, none⟩) := by have q := (hE ⟨1, .data⟩ (by simp) rfl).2; rw [hT] at q; exact q
      have ev23 : fa.tmps[23]?.getD undef = .pointer (some ⟨w.heap.size, 1, none⟩) := (hF.ev 1 23 (by kernel_rfl)).trans q1
      have hJ2 := hJ
      rw [hG] at hJ2
      have y0 := hJ2.cell x1 (by omega) (by omega)
      clear hJ2
      refine wpOp_val rfl (wanted_none rfl) ?_ (fK (.int .i64 a) fW (hR_ fW) (by rw [hT]; exact rfl) (hP_ 2 _ fy fW rfl hJ))
      clear fK hE hF hJ hN
      go_simp
    refine stepsAll_cons (k := 3) ?_ ?_
    · intro fa fx fW fy hF hN hJ hE K fK
      have hJ : G (fy 5) (fy 11) fW := hJ
      have ev5 : fa.tmps[5]?.getD undef = .pointer (some ⟨w.heap.size, 0, none⟩) := hF.eo 5 (by kernel_rfl)
      refine wpOp_val rfl (wanted_none rfl) ?_ (fK (.pointer (some ⟨w.heap.size, 2, none⟩)) fW (hR_ fW) (by rw [hT]; exact rfl) (hP_ 3 _ fy fW rfl hJ))
      clear fK hE hF hJ hN
      go_simp
    refine stepsAll_cons (k := 4) ?_ ?_
    · intro fa fx fW fy hF hN hJ hE K fK
      have hJ : G (fy 5) (fy 11) fW := hJ
      have q3 : fx 3 = .pointer (some ⟨w.heap.size, 2, none⟩) := by have q := (hE ⟨3, .data⟩ (by simp) rfl).2; rw [hT] at q; exact q
      have ev25 : fa.tmps[25]?.getD undef = .pointer (some ⟨w.heap.size, 2, none⟩) := (hF.ev 3 25 (by kernel_rfl)).trans q3
      have hJ2 := hJ
      rw [hG] at hJ2
      have y0 := hJ2.cell x2 (by omega) (by omega)
      clear hJ2
      refine wpOp_val rfl (wanted_none rfl) ?_ (fK (.int .i64 d) fW (hR_ fW) (by rw [hT]; exact rfl) (hP_ 4 _ fy fW rfl hJ))
      clear fK hE hF hJ hN
      go_simp
    refine stepsAll_cons (k := 5) ?_ ?_
    · intro fa fx fW fy hF hN hJ hE K fK
      have hJ : G (fy 5) (fy 11) fW := hJ
      have q0 : fx 0 = .pointer (some ⟨b, 0, none⟩) := by have q := (hE ⟨0, .data⟩ (by simp) rfl).2; rw [hT] at q; exact q
      have q2 : fx 2 = .int .i64 a := by have q := (hE ⟨2, .data⟩ (by simp) rfl).2; rw [hT] at q; exact q
      have q4 : fx 4 = .int .i64 d := by have q := (hE ⟨4, .data⟩ (by simp) rfl).2; rw [hT] at q; exact q
      have ev22 : fa.tmps[22]?.getD undef = .pointer (some ⟨b, 0, none⟩) := (hF.ev 0 22 (by kernel_rfl)).trans q0
      have ev24 : fa.tmps[24]?.getD undef = .int .i64 a := (hF.ev 2 24 (by kernel_rfl)).trans q2
      have ev26 : fa.tmps[26]?.getD undef = .int .i64 d := (hF.ev 4 26 (by kernel_rfl)).trans q4
      refine wpOp_call rfl (wanted_none rfl) (by go_simp; exact ⟨rfl, rfl⟩) ?_
      rw [hG, hN] at hJ
      obtain ⟨hy, hJ1⟩ := hJ.first
      refine (HS.out fW hJ1.src (by have := hJ1.chg.size; omega)).mono ?_
      rintro e' w' ⟨rfl, hc, hs⟩
      have b1 : S_ fW w' := by rw [hS_]; trivial
      have j1 : G (some (.int .i64 v1)) (fy 11) w' := by rw [hG, hy]; exact .inr (.inl ⟨by simp, rfl, hJ1.s hc hs hbm g5⟩)
      exact ⟨_, rfl, fK (.int .i64 v1) (w') (b1) (by rw [hT]; exact rfl) (j1)⟩
    refine stepsAll_cons (k := 6) ?_ ?_
    · intro fa fx fW fy hF hN hJ hE K fK
      have hJ : G (fy 5) (fy 11) fW := hJ
      have ev1 : fa.tmps[1]?.getD undef = .pointer (some ⟨m, 0, none⟩) := hF.eo 1 (by kernel_rfl)
      refine wpOp_val rfl (wanted_none rfl) ?_ (fK (.pointer (some ⟨m, 0, none⟩)) fW (hR_ fW) (by rw [hT]; exact rfl) (hP_ 6 _ fy fW rfl hJ))
      clear fK hE hF hJ hN
      go_simp
    refine stepsAll_cons (k := 7) ?_ ?_
    · intro fa fx fW fy hF hN hJ hE K fK
      have hJ : G (fy 5) (fy 11) fW := hJ
      have ev5 : fa.tmps[5]?.getD undef = .pointer (some ⟨w.heap.size, 0, none⟩) := hF.eo 5 (by kernel_rfl)
      refine wpOp_val rfl (wanted_none rfl) ?_ (fK (.pointer (some ⟨w.heap.size, 1, none⟩)) fW (hR_ fW) (by rw [hT]; exact rfl) (hP_ 7 _ fy fW rfl hJ))
      clear fK hE hF hJ hN
      go_simp
    refine stepsAll_cons (k := 8) ?_ ?_
    · intro fa fx fW fy hF hN hJ hE K fK
      have hJ : G (fy 5) (fy 11) fW := hJ
      have q7 : fx 7 = .pointer (some ⟨w.heap.size, 1, none⟩) := by have q := (hE ⟨7, .data⟩ (by simp) rfl).2; rw [hT] at q; exact q
      have ev29 : fa.tmps[29]?.getD undef = .pointer (some ⟨w.heap.size, 1, none⟩) := (hF.ev 7 29 (by kernel_rfl)).trans q7
      have hJ2 := hJ
      rw [hG] at hJ2
      have y0 := hJ2.cell x1 (by omega) (by omega)
      clear hJ2
      refine wpOp_val rfl (wanted_none rfl) ?_ (fK (.int .i64 a) fW (hR_ fW) (by rw [hT]; exact rfl) (hP_ 8 _ fy fW rfl hJ))
      clear fK hE hF hJ hN
      go_simp
    refine stepsAll_cons (k := 9) ?_ ?_
    · intro fa fx fW fy hF hN hJ hE K fK
      have hJ : G (fy 5) (fy 11) fW := hJ
      have ev5 : fa.tmps[5]?.getD undef = .pointer (some ⟨w.heap.size, 0, none⟩) := hF.eo 5 (by kernel_rfl)
      refine wpOp_val rfl (wanted_none rfl) ?_ (fK (.pointer (some ⟨w.heap.size, 2, none⟩)) fW (hR_ fW) (by rw [hT]; exact rfl) (hP_ 9 _ fy fW rfl hJ))
      clear fK hE hF hJ hN
      go_simp
    refine stepsAll_cons (k := 10) ?_ ?_
    · intro fa fx fW fy hF hN hJ hE K fK
      have hJ : G (fy 5) (fy 11) fW := hJ
      have q9 : fx 9 = .pointer (some ⟨w.heap.size, 2, none⟩) := by have q := (hE ⟨9, .data⟩ (by simp) rfl).2; rw [hT] at q; exact q
      have ev31 : fa.tmps[31]?.getD undef = .pointer (some ⟨w.heap.size, 2, none⟩) := (hF.ev 9 31 (by kernel_rfl)).trans q9
      have hJ2 := hJ
      rw [hG] at hJ2
      have y0 := hJ2.cell x2 (by omega) (by omega)
      clear hJ2
      refine wpOp_val rfl (wanted_none rfl) ?_ (fK (.int .i64 d) fW (hR_ fW) (by rw [hT]; exact rfl) (hP_ 10 _ fy fW rfl hJ))
      clear fK hE hF hJ hN
      go_simp
    refine stepsAll_cons (k := 11) ?_ ?_
    · intro fa fx fW fy hF hN hJ hE K fK
      have hJ : G (fy 5) (fy 11) fW := hJ
      have q5 : fx 5 = .int .i64 v1 := by have q := (hE ⟨5, .chain⟩ (by simp) rfl).2; rw [hT] at q; exact q
      have y5 : fy 5 = some (fx 5) := (hE ⟨5, .chain⟩ (by simp) rfl).1
      have q6 : fx 6 = .pointer (some ⟨m, 0, none⟩) := by have q := (hE ⟨6, .data⟩ (by simp) rfl).2; rw [hT] at q; exact q
      have q8 : fx 8 = .int .i64 a := by have q := (hE ⟨8, .data⟩ (by simp) rfl).2; rw [hT] at q; exact q
      have q10 : fx 10 = .int .i64 d := by have q := (hE ⟨10, .data⟩ (by simp) rfl).2; rw [hT] at q; exact q
      have ev28 : fa.tmps[28]?.getD undef = .pointer (some ⟨m, 0, none⟩) := (hF.ev 6 28 (by kernel_rfl)).trans q6
      have ev30 : fa.tmps[30]?.getD undef = .int .i64 a := (hF.ev 8 30 (by kernel_rfl)).trans q8
      have ev32 : fa.tmps[32]?.getD undef = .int .i64 d := (hF.ev 10 32 (by kernel_rfl)).trans q10
      refine wpOp_call rfl (wanted_none rfl) (by go_simp; exact ⟨rfl, rfl⟩) ?_
      rw [hG, y5, hN] at hJ
      have hJ1 := hJ.second
      refine (HR.out fW hJ1.ref (by have := hJ1.chg.size; omega)).mono ?_
      rintro e' w' ⟨rfl, hc, hs⟩
      have b1 : S_ fW w' := by rw [hS_]; trivial
      have j1 : G (fy 5) (some (.int .i64 v2)) w' := by rw [hG, y5]; exact .inr (.inr ⟨by simp, by simp, hJ1.r hc hs hbm (by omega)⟩)
      exact ⟨_, rfl, fK (.int .i64 v2) (w') (b1) (by rw [hT]; exact rfl) (j1)⟩
    refine stepsAll_cons (k := 12) ?_ ?_
    · intro fa fx fW fy hF hN hJ hE K fK
      have hJ : G (fy 5) (fy 11) fW := hJ
      have q5 : fx 5 = .int .i64 v1 := by have q := (hE ⟨5, .data⟩ (by simp) rfl).2; rw [hT] at q; exact q
      have y5 : fy 5 = some (fx 5) := (hE ⟨5, .data⟩ (by simp) rfl).1
      have q11 : fx 11 = .int .i64 v2 := by have q := (hE ⟨11, .data⟩ (by simp) rfl).2; rw [hT] at q; exact q
      have y11 : fy 11 = some (fx 11) := (hE ⟨11, .data⟩ (by simp) rfl).1
      have ev27 : fa.tmps[27]?.getD undef = .int .i64 v1 := (hF.ev 5 27 (by kernel_rfl)).trans q5
      have ev33 : fa.tmps[33]?.getD undef = .int .i64 v2 := (hF.ev 11 33 (by kernel_rfl)).trans q11
      refine wpOp_val rfl (wanted_none rfl) ?_ (fK (.bool (v1 == v2)) fW (hR_ fW) (by rw [hT]; exact rfl) (hP_ 12 _ fy fW rfl hJ))
      clear fK hE hF hJ hN
      go_simp
    refine stepsAll_cons (k := 13) ?_ ?_
    · intro fa fx fW fy hF hN hJ hE K fK
      have hJ : G (fy 5) (fy 11) fW := hJ
      have q12 : fx 12 = .bool (v1 == v2) := by have q := (hE ⟨12, .data⟩ (by simp) rfl).2; rw [hT] at q; exact q
      have ev34 : fa.tmps[34]?.getD undef = .bool (v1 == v2) := (hF.ev 12 34 (by kernel_rfl)).trans q12
      refine wpOp_val rfl (wanted_none rfl) ?_ (fK (.bool (v1 == v2)) fW (hR_ fW) (by rw [hT]; exact rfl) (hP_ 13 _ fy fW rfl hJ))
      clear fK hE hF hJ hN
      go_simp
    exact stepsAll_nil
  intro fa fx fW fy hF hJ0 hx
  have y5 : fy 5 = some (fx 5) := (hx 5 (by decide)).1
  have y11 : fy 11 = some (fx 11) := (hx 11 (by decide)).1
  have hJ : G (fy 5) (fy 11) fW := hJ0
  clear hJ0
  rw [y5, y11] at hJ
  have q13 : fx 13 = .bool (v1 == v2) := by have q := (hx 13 (by decide)).2; rw [hT] at q; exact q
  have ev6 : fa.tmps[6]?.getD undef = .bool (v1 == v2) := (hF.ev 13 6 (by kernel_rfl)).trans q13
  rw [hF.eq]
  clear hF hx hT T hP_ hR_ y5 y11
  simp only [putAll, Act.put, List.setIfInBounds_toArray, List.set_cons_zero, List.set_cons_succ, q13]
  rw [hG] at hJ
  have hJ1 := hJ.third
  go_wp2
  go_ret
  refine ⟨_, rfl, fun h => ?_, ?_⟩
  · rw [HT.out h]; simp
  · rw [HQ.out.1, HQ.out.2]; exact hJ1.from hal
set_option maxRecDepth 100000 in
set_option maxHeartbeats 8000000 in
theorem lawGet2 (b m : Nat) (k a d c : Int) (n : Nat) (hk : k = 2) (hq : I64 d ∧ I64 c) (s r : List Int × Int) (w : World) (H : Go7 L B C b m w s r) :
    Calls Try.prog 31 #[.pointer (some ⟨b, 0, none⟩), .pointer (some ⟨m, 0, none⟩), .agg #[.int .i64 k, .int .i64 a, .int .i64 d, .int .u64 n, .int .i64 c]] w (GetsB L B C b m w ⟨k, a, d, n, c⟩ s r) := by
  subst hk
  obtain ⟨g1, g2, g3, g4, g5, g6, g7, g8, g9⟩ := H
  have hbw := g1.made.lt
  have hmw := g2.err.lt
  have hbm : b ≠ m := by omega
  obtain ⟨W0, hW0⟩ : ∃ W0, W0 = w.alloc (.cells #[.int .i64 2, .int .i64 a, .int .i64 d, .int .u64 n, .int .i64 c] 42) := ⟨_, rfl⟩
  have hal : Below w.heap.size w W0 := by rw [hW0]; exact below_al (Below.refl _ _) _
  have hz0 : w.heap.size + 1 = W0.heap.size := by rw [hW0]; simp
  have x2 : W0.cell? ⟨w.heap.size, 2, none⟩ = some (.int .i64 d) := by rw [hW0]; go_simp
  have HB : Hid (Both L B C b m W0 W0 s r) := ⟨Chg.refl _ _, g1.below hal, g2.below hal⟩
  have e1 : askSt ⟨2, a, d, n, c⟩ s = (gotE [] (fun bs => textM bs d) s.1 s.2).2 := by simp [askSt]
  have e2 : askSt ⟨2, a, d, n, c⟩ r = (gotE [] (fun bs => textM bs d) r.1 r.2).2 := by simp [askSt]
  have HS := Lib.hid (fun (W : World) (h : Src B W b s.1 s.2) (hB : B ≤ W.heap.size) => srcText' b d s.2 s.1 W h hB g3.1 hq.1)
  have HR := Lib.hid (fun (W : World) (h : RSrc L C W m r.1 r.2) (hC : C ≤ W.heap.size) => refText m d r.2 r.1 W h g4.1 g4.2 hq.1)
  generalize hs1 : gotE [] (fun bs => textM bs d) s.1 s.2 = S1 at e1 HS
  generalize hr1 : gotE [] (fun bs => textM bs d) r.1 r.2 = R1 at e2 HR
  obtain ⟨v1, s1⟩ := S1
  obtain ⟨v2, r1⟩ := R1
  have HT : Hid (s = r → v1 = v2) := by
    intro h
    rw [h] at hs1
    rw [hs1] at hr1
    exact congrArg Prod.fst hr1
  have HQ : Hid (askSt ⟨2, a, d, n, c⟩ s = s1 ∧ askSt ⟨2, a, d, n, c⟩ r = r1) := ⟨e1, e2⟩
  clear hs1 hr1 e1 e2 g1 g2 g3 g4
  go_enter Try.func31, Try.ntmps31
  go_wp2
  rw [← hW0]
  obtain ⟨G, hG⟩ : ∃ G : Option Value → Option Value → World → Prop, ∀ x y W, G x y W = Duo L B C b m W0 s r s1 r1 x y W := ⟨_, fun _ _ _ => rfl⟩
  obtain ⟨S_, hS_⟩ : ∃ S_ : World → World → Prop, S_ = (fun _ _ => True) := ⟨_, rfl⟩
  have hR_ : ∀ W, S_ W W := by intro W; rw [hS_]; exact trivial
  obtain ⟨T, hT⟩ : ∃ T : Nat → FactS S_, ∀ t_, T t_ = ([FactS.eq (.pointer (some ⟨b, 0, none⟩)), FactS.eq (.pointer (some ⟨w.heap.size, 2, none⟩)), FactS.eq (.int .i64 d), FactS.eq (.string (strOfNums v1)), FactS.eq (.pointer (some ⟨m, 0, none⟩)), FactS.eq (.pointer (some ⟨w.heap.size, 2, none⟩)), FactS.eq (.int .i64 d), FactS.eq (.string (strOfNums v2)), FactS.eq (.bool ((strOfNums v1).toList == (strOfNums v2).toList)), FactS.eq (.bool ((strOfNums v1).toList == (strOfNums v2).toList))] : List (FactS S_)).getD t_ FactS.any := ⟨_, fun _ => rfl⟩
  have hP_ : ∀ i_ v_ (y_ : Nat → Option Value) W_, ([3, 7].contains i_) = false → G (y_ 3) (y_ 7) W_ → G (updY y_ i_ v_ 3) (updY y_ i_ v_ 7) W_ := by
    intro i_ v_ y_ W_ hi_ h_
    simp only [List.contains_cons, List.contains_nil, Bool.or_false, Bool.or_eq_false_iff, beq_eq_false_iff_ne, ne_eq] at hi_
    obtain ⟨i3_, i7_⟩ := hi_
    rw [updY_ne y_ i_ v_ i3_, updY_ne y_ i_ v_ i7_]
    exact h_
  refine region_tabJ [(0, 37), (1, 38), (2, 39), (3, 40), (4, 41), (5, 42), (6, 43), (7, 44), (8, 45), (9, 6)] S_ T (fun y_ W_ => G (y_ 3) (y_ 7) W_) (by kernel_rfl) (by kernel_rfl) (by kernel_rfl) (by kernel_rfl) (by kernel_rfl) ?_ ?_ ?_
  · skip
    show G none none _
    rw [hG]
    exact .inl ⟨rfl, rfl, HB.out.below (below_dr (Below.refl _ _) _)⟩
  · skip
    refine stepsAll_cons (k := 0) ?_ ?_
    · intro fa fx fW fy hF hN hJ hE K fK
      have hJ : G (fy 3) (fy 7) fW := hJ
      have ev0 : fa.tmps[0]?.getD undef = .pointer (some ⟨b, 0, none⟩) := hF.eo 0 (by kernel_rfl)
      refine wpOp_val rfl (wanted_none rfl) ?_ (fK (.pointer (some ⟨b, 0, none⟩)) fW (hR_ fW) (by rw [hT]; exact rfl) (hP_ 0 _ fy fW rfl hJ))
      clear fK hE hF hJ hN
      go_simp
    refine stepsAll_cons (k := 1) ?_ ?_
    · intro fa fx fW fy hF hN hJ hE K fK
      have hJ : G (fy 3) (fy 7) fW := hJ
      have ev5 : fa.tmps[5]?.getD undef = .pointer (some ⟨w.heap.size, 0, none⟩) := hF.eo 5 (by kernel_rfl)
      refine wpOp_val rfl (wanted_none rfl) ?_ (fK (.pointer (some ⟨w.heap.size, 2, none⟩)) fW (hR_ fW) (by rw [hT]; exact rfl) (hP_ 1 _ fy fW rfl hJ))
      clear fK hE hF hJ hN
      go_simp
    refine stepsAll_cons (k := 2) ?_ ?_
    · intro fa fx fW fy hF hN hJ hE K fK
      have hJ : G (fy 3) (fy 7) fW := hJ
      have q1 : fx 1 = .pointer (some ⟨w.heap.size, 2, none⟩) := by have q := (hE ⟨1, .data⟩ (by simp) rfl).2; rw [hT] at q; exact q
      have ev38 : fa.tmps[38]?.getD undef = .pointer (some ⟨w.heap.size, 2, none⟩) := (hF.ev 1 38 (by kernel_rfl)).trans q1
      have hJ2 := hJ
      rw [hG] at hJ2
      have y0 := hJ2.cell x2 (by omega) (by omega)
      clear hJ2
      refine wpOp_val rfl (wanted_none rfl) ?_ (fK (.int .i64 d) fW (hR_ fW) (by rw [hT]; exact rfl) (hP_ 2 _ fy fW rfl hJ))
      clear fK hE hF hJ hN
      go_simp
    refine stepsAll_cons (k := 3) ?_ ?_
    · intro fa fx fW fy hF hN hJ hE K fK
      have hJ : G (fy 3) (fy 7) fW := hJ
      have q0 : fx 0 = .pointer (some ⟨b, 0, none⟩) := by have q := (hE ⟨0, .data⟩ (by simp) rfl).2; rw [hT] at q; exact q
      have q2 : fx 2 = .int .i64 d := by have q := (hE ⟨2, .data⟩ (by simp) rfl).2; rw [hT] at q; exact q
      have ev37 : fa.tmps[37]?.getD undef = .pointer (some ⟨b, 0, none⟩) := (hF.ev 0 37 (by kernel_rfl)).trans q0
      have ev39 : fa.tmps[39]?.getD undef = .int .i64 d := (hF.ev 2 39 (by kernel_rfl)).trans q2
      refine wpOp_call rfl (wanted_none rfl) (by go_simp; exact ⟨rfl, rfl⟩) ?_
      rw [hG, hN] at hJ
      obtain ⟨hy, hJ1⟩ := hJ.first
      refine (HS.out fW hJ1.src (by have := hJ1.chg.size; omega)).mono ?_
      rintro e' w' ⟨rfl, hc, hs⟩
      have b1 : S_ fW w' := by rw [hS_]; trivial
      have j1 : G (some (.string (strOfNums v1))) (fy 7) w' := by rw [hG, hy]; exact .inr (.inl ⟨by simp, rfl, hJ1.s hc hs hbm g5⟩)
      exact ⟨_, rfl, fK (.string (strOfNums v1)) (w') (b1) (by rw [hT]; exact rfl) (j1)⟩
    refine stepsAll_cons (k := 4) ?_ ?_
    · intro fa fx fW fy hF hN hJ hE K fK
      have hJ : G (fy 3) (fy 7) fW := hJ
      have ev1 : fa.tmps[1]?.getD undef = .pointer (some ⟨m, 0, none⟩) := hF.eo 1 (by kernel_rfl)
      refine wpOp_val rfl (wanted_none rfl) ?_ (fK (.pointer (some ⟨m, 0, none⟩)) fW (hR_ fW) (by rw [hT]; exact rfl) (hP_ 4 _ fy fW rfl hJ))
      clear fK hE hF hJ hN
      go_simp
    refine stepsAll_cons (k := 5) ?_ ?_
    · intro fa fx fW fy hF hN hJ hE K fK
      have hJ : G (fy 3) (fy 7) fW := hJ
      have ev5 : fa.tmps[5]?.getD undef = .pointer (some ⟨w.heap.size, 0, none⟩) := hF.eo 5 (by kernel_rfl)
      refine wpOp_val rfl (wanted_none rfl) ?_ (fK (.pointer (some ⟨w.heap.size, 2, none⟩)) fW (hR_ fW) (by rw [hT]; exact rfl) (hP_ 5 _ fy fW rfl hJ))
      clear fK hE hF hJ hN
      go_simp
    refine stepsAll_cons (k := 6) ?_ ?_
    · intro fa fx fW fy hF hN hJ hE K fK
      have hJ : G (fy 3) (fy 7) fW := hJ
      have q5 : fx 5 = .pointer (some ⟨w.heap.size, 2, none⟩) := by have q := (hE ⟨5, .data⟩ (by simp) rfl).2; rw [hT] at q; exact q
      have ev42 : fa.tmps[42]?.getD undef = .pointer (some ⟨w.heap.size, 2, none⟩) := (hF.ev 5 42 (by kernel_rfl)).trans q5
      have hJ2 := hJ
      rw [hG] at hJ2
      have y0 := hJ2.cell x2 (by omega) (by omega)
      clear hJ2
      refine wpOp_val rfl (wanted_none rfl) ?_ (fK (.int .i64 d) fW (hR_ fW) (by rw [hT]; exact rfl) (hP_ 6 _ fy fW rfl hJ))
      clear fK hE hF hJ hN
      go_simp
    refine stepsAll_cons (k := 7) ?_ ?_
    · intro fa fx fW fy hF hN hJ hE K fK
      have hJ : G (fy 3) (fy 7) fW := hJ
      have q3 : fx 3 = .string (strOfNums v1) := by have q := (hE ⟨3, .chain⟩ (by simp) rfl).2; rw [hT] at q; exact q
      have y3 : fy 3 = some (fx 3) := (hE ⟨3, .chain⟩ (by simp) rfl).1
      have q4 : fx 4 = .pointer (some ⟨m, 0, none⟩) := by have q := (hE ⟨4, .data⟩ (by simp) rfl).2; rw [hT] at q; exact q
      have q6 : fx 6 = .int .i64 d := by have q := (hE ⟨6, .data⟩ (by simp) rfl).2; rw [hT] at q; exact q
      have ev41 : fa.tmps[41]?.getD undef = .pointer (some ⟨m, 0, none⟩) := (hF.ev 4 41 (by kernel_rfl)).trans q4
      have ev43 : fa.tmps[43]?.getD undef = .int .i64 d := (hF.ev 6 43 (by kernel_rfl)).trans q6
      refine wpOp_call rfl (wanted_none rfl) (by go_simp; exact ⟨rfl, rfl⟩) ?_
      rw [hG, y3, hN] at hJ
      have hJ1 := hJ.second
      refine (HR.out fW hJ1.ref (by have := hJ1.chg.size; omega)).mono ?_
      rintro e' w' ⟨rfl, hc, hs⟩
      have b1 : S_ fW w' := by rw [hS_]; trivial
      have j1 : G (fy 3) (some (.string (strOfNums v2))) w' := by rw [hG, y3]; exact .inr (.inr ⟨by simp, by simp, hJ1.r hc hs hbm (by omega)⟩)
      exact ⟨_, rfl, fK (.string (strOfNums v2)) (w') (b1) (by rw [hT]; exact rfl) (j1)⟩
    refine stepsAll_cons (k := 8) ?_ ?_
    · intro fa fx fW fy hF hN hJ hE K fK
      have hJ : G (fy 3) (fy 7) fW := hJ
      have q3 : fx 3 = .string (strOfNums v1) := by have q := (hE ⟨3, .data⟩ (by simp) rfl).2; rw [hT] at q; exact q
      have y3 : fy 3 = some (fx 3) := (hE ⟨3, .data⟩ (by simp) rfl).1
      have q7 : fx 7 = .string (strOfNums v2) := by have q := (hE ⟨7, .data⟩ (by simp) rfl).2; rw [hT] at q; exact q
      have y7 : fy 7 = some (fx 7) := (hE ⟨7, .data⟩ (by simp) rfl).1
      have ev40 : fa.tmps[40]?.getD undef = .string (strOfNums v1) := (hF.ev 3 40 (by kernel_rfl)).trans q3
      have ev44 : fa.tmps[44]?.getD undef = .string (strOfNums v2) := (hF.ev 7 44 (by kernel_rfl)).trans q7
      refine wpOp_val rfl (wanted_none rfl) ?_ (fK (.bool ((strOfNums v1).toList == (strOfNums v2).toList)) fW (hR_ fW) (by rw [hT]; exact rfl) (hP_ 8 _ fy fW rfl hJ))
      clear fK hE hF hJ hN
      go_simp
    refine stepsAll_cons (k := 9) ?_ ?_
    · intro fa fx fW fy hF hN hJ hE K fK
      have hJ : G (fy 3) (fy 7) fW := hJ
      have q8 : fx 8 = .bool ((strOfNums v1).toList == (strOfNums v2).toList) := by have q := (hE ⟨8, .data⟩ (by simp) rfl).2; rw [hT] at q; exact q
      have ev45 : fa.tmps[45]?.getD undef = .bool ((strOfNums v1).toList == (strOfNums v2).toList) := (hF.ev 8 45 (by kernel_rfl)).trans q8
      refine wpOp_val rfl (wanted_none rfl) ?_ (fK (.bool ((strOfNums v1).toList == (strOfNums v2).toList)) fW (hR_ fW) (by rw [hT]; exact rfl) (hP_ 9 _ fy fW rfl hJ))
      clear fK hE hF hJ hN
      go_simp
    exact stepsAll_nil
  intro fa fx fW fy hF hJ0 hx
  have y3 : fy 3 = some (fx 3) := (hx 3 (by decide)).1
  have y7 : fy 7 = some (fx 7) := (hx 7 (by decide)).1
  have hJ : G (fy 3) (fy 7) fW := hJ0
  clear hJ0
  rw [y3, y7] at hJ
  have q9 : fx 9 = .bool ((strOfNums v1).toList == (strOfNums v2).toList) := by have q := (hx 9 (by decide)).2; rw [hT] at q; exact q
  have ev6 : fa.tmps[6]?.getD undef = .bool ((strOfNums v1).toList == (strOfNums v2).toList) := (hF.ev 9 6 (by kernel_rfl)).trans q9
  rw [hF.eq]
  clear hF hx hT T hP_ hR_ y3 y7
  simp only [putAll, Act.put, List.setIfInBounds_toArray, List.set_cons_zero, List.set_cons_succ, q9]
  rw [hG] at hJ
  have hJ1 := hJ.third
  go_wp2
  go_ret
  refine ⟨_, rfl, fun h => ?_, ?_⟩
  · rw [HT.out h]; simp
  · rw [HQ.out.1, HQ.out.2]; exact hJ1.from hal
set_option maxRecDepth 100000 in
set_option maxHeartbeats 8000000 in
theorem lawGet3 (b m : Nat) (k a d c : Int) (n : Nat) (hk : k = 3) (_ : I64 d ∧ I64 c) (s r : List Int × Int) (w : World) (H : Go7 L B C b m w s r) :
    Calls Try.prog 31 #[.pointer (some ⟨b, 0, none⟩), .pointer (some ⟨m, 0, none⟩), .agg #[.int .i64 k, .int .i64 a, .int .i64 d, .int .u64 n, .int .i64 c]] w (GetsB L B C b m w ⟨k, a, d, n, c⟩ s r) := by
  subst hk
  obtain ⟨g1, g2, g3, g4, g5, g6, g7, g8, g9⟩ := H
  have hbw := g1.made.lt
  have hmw := g2.err.lt
  have hbm : b ≠ m := by omega
  obtain ⟨W0, hW0⟩ : ∃ W0, W0 = w.alloc (.cells #[.int .i64 3, .int .i64 a, .int .i64 d, .int .u64 n, .int .i64 c] 42) := ⟨_, rfl⟩
  have hal : Below w.heap.size w W0 := by rw [hW0]; exact below_al (Below.refl _ _) _
  have hz0 : w.heap.size + 1 = W0.heap.size := by rw [hW0]; simp
  have HB : Hid (Both L B C b m W0 W0 s r) := ⟨Chg.refl _ _, g1.below hal, g2.below hal⟩
  have e1 : askSt ⟨3, a, d, n, c⟩ s = (gotE false (flagM) s.1 s.2).2 := by simp [askSt]
  have e2 : askSt ⟨3, a, d, n, c⟩ r = (gotE false (flagM) r.1 r.2).2 := by simp [askSt]
  have HS := Lib.hid (fun (W : World) (h : Src B W b s.1 s.2) (hB : B ≤ W.heap.size) => srcFlag' b s.2 s.1 W h hB g3.1)
  have HR := Lib.hid (fun (W : World) (h : RSrc L C W m r.1 r.2) (hC : C ≤ W.heap.size) => refFlag m r.2 r.1 W h)
  generalize hs1 : gotE false (flagM) s.1 s.2 = S1 at e1 HS
  generalize hr1 : gotE false (flagM) r.1 r.2 = R1 at e2 HR
  obtain ⟨v1, s1⟩ := S1
  obtain ⟨v2, r1⟩ := R1
  have HT : Hid (s = r → v1 = v2) := by
    intro h
    rw [h] at hs1
    rw [hs1] at hr1
    exact congrArg Prod.fst hr1
  have HQ : Hid (askSt ⟨3, a, d, n, c⟩ s = s1 ∧ askSt ⟨3, a, d, n, c⟩ r = r1) := ⟨e1, e2⟩
  clear hs1 hr1 e1 e2 g1 g2 g3 g4
  go_enter Try.func31, Try.ntmps31
  go_wp2_with (first
    | (go_at_call 26; rw [← hW0]; refine (HS.out _ HB.out.src (by omega)).mono ?_; rintro e w1 ⟨rfl, hc, hs⟩; have HB1 := Lib.hid (HB.out.s hc hs hbm g5); have hsz := hc.size)
    | (go_at_call 58; refine (HR.out _ HB1.out.ref (by omega)).mono ?_; rintro e w2 ⟨rfl, hc2, hs2⟩; have HB2 := Lib.hid (HB1.out.r hc2 hs2 hbm (by omega))))
  go_ret
  refine ⟨_, rfl, fun h => ?_, ?_⟩
  · rw [HT.out h]; simp
  · rw [HQ.out.1, HQ.out.2]; exact HB2.out.from hal
set_option maxRecDepth 100000 in
set_option maxHeartbeats 8000000 in
theorem lawGet5 (b m : Nat) (k a d c : Int) (n : Nat) (hk : k ≠ 0 ∧ k ≠ 1 ∧ k ≠ 2 ∧ k ≠ 3 ∧ k ≠ 4) (_ : I64 d ∧ I64 c) (s r : List Int × Int) (w : World) (H : Go7 L B C b m w s r) :
    Calls Try.prog 31 #[.pointer (some ⟨b, 0, none⟩), .pointer (some ⟨m, 0, none⟩), .agg #[.int .i64 k, .int .i64 a, .int .i64 d, .int .u64 n, .int .i64 c]] w (GetsB L B C b m w ⟨k, a, d, n, c⟩ s r) := by
  obtain ⟨k0, k1, k2, k3, k4⟩ := hk
  have q0 : (k == 0) = false := by simp; omega
  have q1 : (k == 1) = false := by simp; omega
  have q2 : (k == 2) = false := by simp; omega
  have q3 : (k == 3) = false := by simp; omega
  have q4 : (k == 4) = false := by simp; omega
  obtain ⟨g1, g2, g3, g4, g5, g6, g7, g8, g9⟩ := H
  have hbw := g1.made.lt
  have hmw := g2.err.lt
  have hbm : b ≠ m := by omega
  obtain ⟨W0, hW0⟩ : ∃ W0, W0 = w.alloc (.cells #[.int .i64 k, .int .i64 a, .int .i64 d, .int .u64 n, .int .i64 c] 42) := ⟨_, rfl⟩
  have hal : Below w.heap.size w W0 := by rw [hW0]; exact below_al (Below.refl _ _) _
  have hz0 : w.heap.size + 1 = W0.heap.size := by rw [hW0]; simp
  have HB : Hid (Both L B C b m W0 W0 s r) := ⟨Chg.refl _ _, g1.below hal, g2.below hal⟩
  have e1 : askSt ⟨k, a, d, n, c⟩ s = (gotE 0 (octM) s.1 s.2).2 := by simp [askSt, k0, k1, k2, k3, k4]
  have e2 : askSt ⟨k, a, d, n, c⟩ r = (gotE 0 (octM) r.1 r.2).2 := by simp [askSt, k0, k1, k2, k3, k4]
  have HS := Lib.hid (fun (W : World) (h : Src B W b s.1 s.2) (hB : B ≤ W.heap.size) => srcByte' b s.2 s.1 W h hB g3.1)
  have HR := Lib.hid (fun (W : World) (h : RSrc L C W m r.1 r.2) (hC : C ≤ W.heap.size) => refByte m r.2 r.1 W h)
  generalize hs1 : gotE 0 (octM) s.1 s.2 = S1 at e1 HS
  generalize hr1 : gotE 0 (octM) r.1 r.2 = R1 at e2 HR
  obtain ⟨v1, s1⟩ := S1
  obtain ⟨v2, r1⟩ := R1
  have HT : Hid (s = r → v1 = v2) := by
    intro h
    rw [h] at hs1
    rw [hs1] at hr1
    exact congrArg Prod.fst hr1
  have HQ : Hid (askSt ⟨k, a, d, n, c⟩ s = s1 ∧ askSt ⟨k, a, d, n, c⟩ r = r1) := ⟨e1, e2⟩
  clear hs1 hr1 e1 e2 g1 g2 g3 g4
  clear k0 k1 k2 k3 k4
  go_enter Try.func31, Try.ntmps31
  go_wp2_with (first
    | (go_at_call 28; rw [← hW0]; refine (HS.out _ HB.out.src (by omega)).mono ?_; rintro e w1 ⟨rfl, hc, hs⟩; have HB1 := Lib.hid (HB.out.s hc hs hbm g5); have hsz := hc.size)
    | (go_at_call 60; refine (HR.out _ HB1.out.ref (by omega)).mono ?_; rintro e w2 ⟨rfl, hc2, hs2⟩; have HB2 := Lib.hid (HB1.out.r hc2 hs2 hbm (by omega))))
  go_ret
  refine ⟨_, rfl, fun h => ?_, ?_⟩
  · rw [HT.out h]; simp
  · rw [HQ.out.1, HQ.out.2]; exact HB2.out.from hal
/-- .. of lists. -/
def DuoL (L B C : Nat) (b m : Nat) (w : World) (s r s' r' : List Int × Int) (l1 l2 : List Int) (x y : Option Value) (W : World) : Prop :=
  (x = none ∧ y = none ∧ Both L B C b m w W s r) ∨
  ((∃ A n c, x = some (.slice A n c) ∧ Rds W 1 A n c (nums .i64 l1) ∧ ∀ ad, A = some ad → w.heap.size ≤ ad.block) ∧ y = none ∧ Both L B C b m w W s' r) ∨
  ((∃ A n c, x = some (.slice A n c) ∧ Rds W 1 A n c (nums .i64 l1)) ∧ (∃ A n c, y = some (.slice A n c) ∧ Rds W 1 A n c (nums .i64 l2)) ∧ Both L B C b m w W s' r')
theorem DuoL.chg {b m : Nat} {w : World} {s r s' r' : List Int × Int} {l1 l2 : List Int} {x y : Option Value} {W : World} (h : DuoL L B C b m w s r s' r' l1 l2 x y W) : Chg (fun k => k = b ∨ k = m) w W := by
  rcases h with ⟨_, _, h⟩ | ⟨_, _, h⟩ | ⟨_, _, h⟩ <;> exact h.chg
theorem DuoL.cell {b m : Nat} {w : World} {s r s' r' : List Int × Int} {l1 l2 : List Int} {x y : Option Value} {W : World} (h : DuoL L B C b m w s r s' r' l1 l2 x y W) {k o : Nat} {v : Value} (hc : w.cell? ⟨k, o, none⟩ = some v) (h1 : k ≠ b) (h2 : k ≠ m) : W.cell? ⟨k, o, none⟩ = some v :=
  h.chg.cell hc (fun h => h.elim h1 h2)
theorem DuoL.first {b m : Nat} {w : World} {s r s' r' : List Int × Int} {l1 l2 : List Int} {y : Option Value} {W : World} (h : DuoL L B C b m w s r s' r' l1 l2 none y W) : y = none ∧ Both L B C b m w W s r := by
  rcases h with ⟨_, h2, h⟩ | ⟨⟨_, _, _, h1, _⟩, _, _⟩ | ⟨⟨_, _, _, h1, _⟩, _, _⟩
  · exact ⟨h2, h⟩
  · cases h1
  · cases h1
theorem DuoL.second {b m : Nat} {w : World} {s r s' r' : List Int × Int} {l1 l2 : List Int} {x : Value} {W : World} (h : DuoL L B C b m w s r s' r' l1 l2 (some x) none W) : (∃ A n c, x = .slice A n c ∧ Rds W 1 A n c (nums .i64 l1) ∧ ∀ ad, A = some ad → w.heap.size ≤ ad.block) ∧ Both L B C b m w W s' r := by
  rcases h with ⟨h1, _, h⟩ | ⟨⟨A, n, c, h1, h2⟩, _, h⟩ | ⟨_, ⟨_, _, _, h1, _⟩, _⟩
  · cases h1
  · cases h1; exact ⟨⟨A, n, c, rfl, h2⟩, h⟩
  · cases h1
theorem DuoL.third {b m : Nat} {w : World} {s r s' r' : List Int × Int} {l1 l2 : List Int} {x y : Value} {W : World} (h : DuoL L B C b m w s r s' r' l1 l2 (some x) (some y) W) : (∃ A n c, x = .slice A n c ∧ Rds W 1 A n c (nums .i64 l1)) ∧ (∃ A n c, y = .slice A n c ∧ Rds W 1 A n c (nums .i64 l2)) ∧ Both L B C b m w W s' r' := by
  rcases h with ⟨h1, _, h⟩ | ⟨_, h1, h⟩ | ⟨⟨A, n, c, h1, h2⟩, ⟨A2, n2, c2, h3, h4⟩, h⟩
  · cases h1
  · cases h1
  · cases h1; cases h3; exact ⟨⟨A, n, c, rfl, h2⟩, ⟨A2, n2, c2, rfl, h4⟩, h⟩
set_option maxRecDepth 100000 in
set_option maxHeartbeats 8000000 in
theorem lawGet4 (b m : Nat) (k a d c : Int) (n : Nat) (hk : k = 4) (hq : I64 d ∧ I64 c) (s r : List Int × Int) (w : World) (H : Go7 L B C b m w s r) :
    Calls Try.prog 31 #[.pointer (some ⟨b, 0, none⟩), .pointer (some ⟨m, 0, none⟩), .agg #[.int .i64 k, .int .i64 a, .int .i64 d, .int .u64 n, .int .i64 c]] w (GetsB L B C b m w ⟨k, a, d, n, c⟩ s r) := by
  subst hk
  obtain ⟨g1, g2, g3, g4, g5, g6, g7, g8, g9⟩ := H
  have hbw := g1.made.lt
  have hmw := g2.err.lt
  have hbm : b ≠ m := by omega
  obtain ⟨W0, hW0⟩ : ∃ W0, W0 = w.alloc (.cells #[.int .i64 4, .int .i64 a, .int .i64 d, .int .u64 n, .int .i64 c] 42) := ⟨_, rfl⟩
  have hal : Below w.heap.size w W0 := by rw [hW0]; exact below_al (Below.refl _ _) _
  have hz0 : w.heap.size + 1 = W0.heap.size := by rw [hW0]; simp
  have x1 : W0.cell? ⟨w.heap.size, 1, none⟩ = some (.int .i64 a) := by rw [hW0]; go_simp
  have x2 : W0.cell? ⟨w.heap.size, 2, none⟩ = some (.int .i64 d) := by rw [hW0]; go_simp
  have x4 : W0.cell? ⟨w.heap.size, 4, none⟩ = some (.int .i64 c) := by rw [hW0]; go_simp
  have HB : Hid (Both L B C b m W0 W0 s r) := ⟨Chg.refl _ _, g1.below hal, g2.below hal⟩
  have e1 : askSt ⟨4, a, d, n, c⟩ s = (gotE [] (fun bs => intsM bs c a d) s.1 s.2).2 := by simp [askSt]
  have e2 : askSt ⟨4, a, d, n, c⟩ r = (gotE [] (fun bs => intsM bs c a d) r.1 r.2).2 := by simp [askSt]
  have HS := Lib.hid (fun (W : World) (h : Src B W b s.1 s.2) (hB : B ≤ W.heap.size) => srcInts' b c a d s.2 s.1 W h hB g3.1 g3.2 hq.2)
  have HR := Lib.hid (fun (W : World) (h : RSrc L C W m r.1 r.2) (hC : C ≤ W.heap.size) => refInts m c a d r.2 r.1 W h hC g4.1 g4.2 hq.2)
  generalize hs1 : gotE [] (fun bs => intsM bs c a d) s.1 s.2 = S1 at e1 HS
  generalize hr1 : gotE [] (fun bs => intsM bs c a d) r.1 r.2 = R1 at e2 HR
  obtain ⟨v1, s1⟩ := S1
  obtain ⟨v2, r1⟩ := R1
  have HT : Hid (s = r → v1 = v2) := by
    intro h
    rw [h] at hs1
    rw [hs1] at hr1
    exact congrArg Prod.fst hr1
  have HQ : Hid (askSt ⟨4, a, d, n, c⟩ s = s1 ∧ askSt ⟨4, a, d, n, c⟩ r = r1) := ⟨e1, e2⟩
  clear hs1 hr1 e1 e2 g1 g2 g3 g4
  go_enter Try.func31, Try.ntmps31
  go_wp2
  rw [← hW0]
  obtain ⟨G, hG⟩ : ∃ G : Option Value → Option Value → World → Prop, ∀ x y W, G x y W = DuoL L B C b m W0 s r s1 r1 v1 v2 x y W := ⟨_, fun _ _ _ => rfl⟩
  obtain ⟨S_, hS_⟩ : ∃ S_ : World → World → Prop, S_ = (fun _ _ => True) := ⟨_, rfl⟩
  have hR_ : ∀ W, S_ W W := by intro W; rw [hS_]; exact trivial
  obtain ⟨T, hT⟩ : ∃ T : Nat → FactS S_, ∀ t_, T t_ = ([FactS.eq (.pointer (some ⟨b, 0, none⟩)), FactS.eq (.pointer (some ⟨w.heap.size, 4, none⟩)), FactS.eq (.int .i64 c), FactS.eq (.pointer (some ⟨w.heap.size, 1, none⟩)), FactS.eq (.int .i64 a), FactS.eq (.pointer (some ⟨w.heap.size, 2, none⟩)), FactS.eq (.int .i64 d), FactS.any, FactS.eq (.pointer (some ⟨m, 0, none⟩)), FactS.eq (.pointer (some ⟨w.heap.size, 4, none⟩)), FactS.eq (.int .i64 c), FactS.eq (.pointer (some ⟨w.heap.size, 1, none⟩)), FactS.eq (.int .i64 a), FactS.eq (.pointer (some ⟨w.heap.size, 2, none⟩)), FactS.eq (.int .i64 d), FactS.any, FactS.eq (.bool (decide (v1 = v2))), FactS.eq (.bool (decide (v1 = v2)))] : List (FactS S_)).getD t_ FactS.any := ⟨_, fun _ => rfl⟩
  have hP_ : ∀ i_ v_ (y_ : Nat → Option Value) W_, ([7, 15].contains i_) = false → G (y_ 7) (y_ 15) W_ → G (updY y_ i_ v_ 7) (updY y_ i_ v_ 15) W_ := by
    intro i_ v_ y_ W_ hi_ h_
    simp only [List.contains_cons, List.contains_nil, Bool.or_false, Bool.or_eq_false_iff, beq_eq_false_iff_ne, ne_eq] at hi_
    obtain ⟨i7_, i15_⟩ := hi_
    rw [updY_ne y_ i_ v_ i7_, updY_ne y_ i_ v_ i15_]
    exact h_
  refine region_tabJ [(0, 55), (1, 56), (2, 57), (3, 58), (4, 59), (5, 60), (6, 61), (7, 62), (8, 63), (9, 64), (10, 65), (11, 66), (12, 67), (13, 68), (14, 69), (15, 70), (16, 71), (17, 6)] S_ T (fun y_ W_ => G (y_ 7) (y_ 15) W_) (by kernel_rfl) (by kernel_rfl) (by kernel_rfl) (by kernel_rfl) (by kernel_rfl) ?_ ?_ ?_
  · skip
    show G none none _
    rw [hG]
    exact .inl ⟨rfl, rfl, HB.out.below (below_dr (Below.refl _ _) _)⟩
  · skip
    refine stepsAll_cons (k := 0) ?_ ?_
    · intro fa fx fW fy hF hN hJ hE K fK
      have hJ : G (fy 7) (fy 15) fW := hJ
      have ev0 : fa.tmps[0]?.getD undef = .pointer (some ⟨b, 0, none⟩) := hF.eo 0 (by kernel_rfl)
      refine wpOp_val rfl (wanted_none rfl) ?_ (fK (.pointer (some ⟨b, 0, none⟩)) fW (hR_ fW) (by rw [hT]; exact rfl) (hP_ 0 _ fy fW rfl hJ))
      clear fK hE hF hJ hN
      go_simp
    refine stepsAll_cons (k := 1) ?_ ?_
    · intro fa fx fW fy hF hN hJ hE K fK
      have hJ : G (fy 7) (fy 15) fW := hJ
      have ev5 : fa.tmps[5]?.getD undef = .pointer (some ⟨w.heap.size, 0, none⟩) := hF.eo 5 (by kernel_rfl)
      refine wpOp_val rfl (wanted_none rfl) ?_ (fK (.pointer (some ⟨w.heap.size, 4, none⟩)) fW (hR_ fW) (by rw [hT]; exact rfl) (hP_ 1 _ fy fW rfl hJ))
      clear fK hE hF hJ hN
      go_simp
    refine stepsAll_cons (k := 2) ?_ ?_
    · intro fa fx fW fy hF hN hJ hE K fK
      have hJ : G (fy 7) (fy 15) fW := hJ
      have q1 : fx 1 = .pointer (some ⟨w.heap.size, 4, none⟩) := by have q := (hE ⟨1, .data⟩ (by simp) rfl).2; rw [hT] at q; exact q
      have ev56 : fa.tmps[56]?.getD undef = .pointer (some ⟨w.heap.size, 4, none⟩) := (hF.ev 1 56 (by kernel_rfl)).trans q1
      have hJ2 := hJ
      rw [hG] at hJ2
      have y0 := hJ2.cell x4 (by omega) (by omega)
      clear hJ2
      refine wpOp_val rfl (wanted_none rfl) ?_ (fK (.int .i64 c) fW (hR_ fW) (by rw [hT]; exact rfl) (hP_ 2 _ fy fW rfl hJ))
      clear fK hE hF hJ hN
      go_simp
    refine stepsAll_cons (k := 3) ?_ ?_
    · intro fa fx fW fy hF hN hJ hE K fK
      have hJ : G (fy 7) (fy 15) fW := hJ
      have ev5 : fa.tmps[5]?.getD undef = .pointer (some ⟨w.heap.size, 0, none⟩) := hF.eo 5 (by kernel_rfl)
      refine wpOp_val rfl (wanted_none rfl) ?_ (fK (.pointer (some ⟨w.heap.size, 1, none⟩)) fW (hR_ fW) (by rw [hT]; exact rfl) (hP_ 3 _ fy fW rfl hJ))
      clear fK hE hF hJ hN
      go_simp
    refine stepsAll_cons (k := 4) ?_ ?_
    · intro fa fx fW fy hF hN hJ hE K fK
      have hJ : G (fy 7) (fy 15) fW := hJ
      have q3 : fx 3 = .pointer (some ⟨w.heap.size, 1, none⟩) := by have q := (hE ⟨3, .data⟩ (by simp) rfl).2; rw [hT] at q; exact q
      have ev58 : fa.tmps[58]?.getD undef = .pointer (some ⟨w.heap.size, 1, none⟩) := (hF.ev 3 58 (by kernel_rfl)).trans q3
      have hJ2 := hJ
      rw [hG] at hJ2
      have y0 := hJ2.cell x1 (by omega) (by omega)
      clear hJ2
      refine wpOp_val rfl (wanted_none rfl) ?_ (fK (.int .i64 a) fW (hR_ fW) (by rw [hT]; exact rfl) (hP_ 4 _ fy fW rfl hJ))
      clear fK hE hF hJ hN
      go_simp
    refine stepsAll_cons (k := 5) ?_ ?_
    · intro fa fx fW fy hF hN hJ hE K fK
      have hJ : G (fy 7) (fy 15) fW := hJ
      have ev5 : fa.tmps[5]?.getD undef = .pointer (some ⟨w.heap.size, 0, none⟩) := hF.eo 5 (by kernel_rfl)
      refine wpOp_val rfl (wanted_none rfl) ?_ (fK (.pointer (some ⟨w.heap.size, 2, none⟩)) fW (hR_ fW) (by rw [hT]; exact rfl) (hP_ 5 _ fy fW rfl hJ))
      clear fK hE hF hJ hN
      go_simp
    refine stepsAll_cons (k := 6) ?_ ?_
    · intro fa fx fW fy hF hN hJ hE K fK
      have hJ : G (fy 7) (fy 15) fW := hJ
      have q5 : fx 5 = .pointer (some ⟨w.heap.size, 2, none⟩) := by have q := (hE ⟨5, .data⟩ (by simp) rfl).2; rw [hT] at q; exact q
      have ev60 : fa.tmps[60]?.getD undef = .pointer (some ⟨w.heap.size, 2, none⟩) := (hF.ev 5 60 (by kernel_rfl)).trans q5
      have hJ2 := hJ
      rw [hG] at hJ2
      have y0 := hJ2.cell x2 (by omega) (by omega)
      clear hJ2
      refine wpOp_val rfl (wanted_none rfl) ?_ (fK (.int .i64 d) fW (hR_ fW) (by rw [hT]; exact rfl) (hP_ 6 _ fy fW rfl hJ))
      clear fK hE hF hJ hN
      go_simp
    refine stepsAll_cons (k := 7) ?_ ?_
    · intro fa fx fW fy hF hN hJ hE K fK
      have hJ : G (fy 7) (fy 15) fW := hJ
      have q0 : fx 0 = .pointer (some ⟨b, 0, none⟩) := by have q := (hE ⟨0, .data⟩ (by simp) rfl).2; rw [hT] at q; exact q
      have q2 : fx 2 = .int .i64 c := by have q := (hE ⟨2, .data⟩ (by simp) rfl).2; rw [hT] at q; exact q
      have q4 : fx 4 = .int .i64 a := by have q := (hE ⟨4, .data⟩ (by simp) rfl).2; rw [hT] at q; exact q
      have q6 : fx 6 = .int .i64 d := by have q := (hE ⟨6, .data⟩ (by simp) rfl).2; rw [hT] at q; exact q
      have ev55 : fa.tmps[55]?.getD undef = .pointer (some ⟨b, 0, none⟩) := (hF.ev 0 55 (by kernel_rfl)).trans q0
      have ev57 : fa.tmps[57]?.getD undef = .int .i64 c := (hF.ev 2 57 (by kernel_rfl)).trans q2
      have ev59 : fa.tmps[59]?.getD undef = .int .i64 a := (hF.ev 4 59 (by kernel_rfl)).trans q4
      have ev61 : fa.tmps[61]?.getD undef = .int .i64 d := (hF.ev 6 61 (by kernel_rfl)).trans q6
      refine wpOp_call rfl (wanted_none rfl) (by go_simp; exact ⟨rfl, rfl⟩) ?_
      rw [hG, hN] at hJ
      obtain ⟨hy, hJ1⟩ := hJ.first
      refine (HS.out fW hJ1.src (by have := hJ1.chg.size; omega)).mono ?_
      rintro e' w' ⟨A, n1, c1, rfl, hrd, hba, hc, hs⟩
      have b1 : S_ fW w' := by rw [hS_]; trivial
      have j1 : G (some (.slice A n1 c1)) (fy 15) w' := by rw [hG, hy]; exact .inr (.inl ⟨⟨A, n1, c1, rfl, hrd, fun ad e => Nat.le_trans hJ1.chg.size (hba ad e)⟩, rfl, hJ1.s hc hs hbm g5⟩)
      exact ⟨_, rfl, fK (.slice A n1 c1) (w') (b1) (by rw [hT]; exact trivial) (j1)⟩
    refine stepsAll_cons (k := 8) ?_ ?_
    · intro fa fx fW fy hF hN hJ hE K fK
      have hJ : G (fy 7) (fy 15) fW := hJ
      have ev1 : fa.tmps[1]?.getD undef = .pointer (some ⟨m, 0, none⟩) := hF.eo 1 (by kernel_rfl)
      refine wpOp_val rfl (wanted_none rfl) ?_ (fK (.pointer (some ⟨m, 0, none⟩)) fW (hR_ fW) (by rw [hT]; exact rfl) (hP_ 8 _ fy fW rfl hJ))
      clear fK hE hF hJ hN
      go_simp
    refine stepsAll_cons (k := 9) ?_ ?_
    · intro fa fx fW fy hF hN hJ hE K fK
      have hJ : G (fy 7) (fy 15) fW := hJ
      have ev5 : fa.tmps[5]?.getD undef = .pointer (some ⟨w.heap.size, 0, none⟩) := hF.eo 5 (by kernel_rfl)
      refine wpOp_val rfl (wanted_none rfl) ?_ (fK (.pointer (some ⟨w.heap.size, 4, none⟩)) fW (hR_ fW) (by rw [hT]; exact rfl) (hP_ 9 _ fy fW rfl hJ))
      clear fK hE hF hJ hN
      go_simp
    refine stepsAll_cons (k := 10) ?_ ?_
    · intro fa fx fW fy hF hN hJ hE K fK
      have hJ : G (fy 7) (fy 15) fW := hJ
      have q9 : fx 9 = .pointer (some ⟨w.heap.size, 4, none⟩) := by have q := (hE ⟨9, .data⟩ (by simp) rfl).2; rw [hT] at q; exact q
      have ev64 : fa.tmps[64]?.getD undef = .pointer (some ⟨w.heap.size, 4, none⟩) := (hF.ev 9 64 (by kernel_rfl)).trans q9
      have hJ2 := hJ
      rw [hG] at hJ2
      have y0 := hJ2.cell x4 (by omega) (by omega)
      clear hJ2
      refine wpOp_val rfl (wanted_none rfl) ?_ (fK (.int .i64 c) fW (hR_ fW) (by rw [hT]; exact rfl) (hP_ 10 _ fy fW rfl hJ))
      clear fK hE hF hJ hN
      go_simp
    refine stepsAll_cons (k := 11) ?_ ?_
    · intro fa fx fW fy hF hN hJ hE K fK
      have hJ : G (fy 7) (fy 15) fW := hJ
      have ev5 : fa.tmps[5]?.getD undef = .pointer (some ⟨w.heap.size, 0, none⟩) := hF.eo 5 (by kernel_rfl)
      refine wpOp_val rfl (wanted_none rfl) ?_ (fK (.pointer (some ⟨w.heap.size, 1, none⟩)) fW (hR_ fW) (by rw [hT]; exact rfl) (hP_ 11 _ fy fW rfl hJ))
      clear fK hE hF hJ hN
      go_simp
    refine stepsAll_cons (k := 12) ?_ ?_
    · intro fa fx fW fy hF hN hJ hE K fK
      have hJ : G (fy 7) (fy 15) fW := hJ
      have q11 : fx 11 = .pointer (some ⟨w.heap.size, 1, none⟩) := by have q := (hE ⟨11, .data⟩ (by simp) rfl).2; rw [hT] at q; exact q
      have ev66 : fa.tmps[66]?.getD undef = .pointer (some ⟨w.heap.size, 1, none⟩) := (hF.ev 11 66 (by kernel_rfl)).trans q11
      have hJ2 := hJ
      rw [hG] at hJ2
      have y0 := hJ2.cell x1 (by omega) (by omega)
      clear hJ2
      refine wpOp_val rfl (wanted_none rfl) ?_ (fK (.int .i64 a) fW (hR_ fW) (by rw [hT]; exact rfl) (hP_ 12 _ fy fW rfl hJ))
      clear fK hE hF hJ hN
      go_simp
    refine stepsAll_cons (k := 13) ?_ ?_
    · intro fa fx fW fy hF hN hJ hE K fK
      have hJ : G (fy 7) (fy 15) fW := hJ
      have ev5 : fa.tmps[5]?.getD undef = .pointer (some ⟨w.heap.size, 0, none⟩) := hF.eo 5 (by kernel_rfl)
      refine wpOp_val rfl (wanted_none rfl) ?_ (fK (.pointer (some ⟨w.heap.size, 2, none⟩)) fW (hR_ fW) (by rw [hT]; exact rfl) (hP_ 13 _ fy fW rfl hJ))
      clear fK hE hF hJ hN
      go_simp
    refine stepsAll_cons (k := 14) ?_ ?_
    · intro fa fx fW fy hF hN hJ hE K fK
      have hJ : G (fy 7) (fy 15) fW := hJ
      have q13 : fx 13 = .pointer (some ⟨w.heap.size, 2, none⟩) := by have q := (hE ⟨13, .data⟩ (by simp) rfl).2; rw [hT] at q; exact q
      have ev68 : fa.tmps[68]?.getD undef = .pointer (some ⟨w.heap.size, 2, none⟩) := (hF.ev 13 68 (by kernel_rfl)).trans q13
      have hJ2 := hJ
      rw [hG] at hJ2
      have y0 := hJ2.cell x2 (by omega) (by omega)
      clear hJ2
      refine wpOp_val rfl (wanted_none rfl) ?_ (fK (.int .i64 d) fW (hR_ fW) (by rw [hT]; exact rfl) (hP_ 14 _ fy fW rfl hJ))
      clear fK hE hF hJ hN
      go_simp
    refine stepsAll_cons (k := 15) ?_ ?_
    · intro fa fx fW fy hF hN hJ hE K fK
      have hJ : G (fy 7) (fy 15) fW := hJ
      have q7 : (FactS.any : FactS S_).p (fx 7) fW := by have q := (hE ⟨7, .chain⟩ (by simp) rfl).2; rw [hT] at q; exact q
      have y7 : fy 7 = some (fx 7) := (hE ⟨7, .chain⟩ (by simp) rfl).1
      have q8 : fx 8 = .pointer (some ⟨m, 0, none⟩) := by have q := (hE ⟨8, .data⟩ (by simp) rfl).2; rw [hT] at q; exact q
      have q10 : fx 10 = .int .i64 c := by have q := (hE ⟨10, .data⟩ (by simp) rfl).2; rw [hT] at q; exact q
      have q12 : fx 12 = .int .i64 a := by have q := (hE ⟨12, .data⟩ (by simp) rfl).2; rw [hT] at q; exact q
      have q14 : fx 14 = .int .i64 d := by have q := (hE ⟨14, .data⟩ (by simp) rfl).2; rw [hT] at q; exact q
      have ev63 : fa.tmps[63]?.getD undef = .pointer (some ⟨m, 0, none⟩) := (hF.ev 8 63 (by kernel_rfl)).trans q8
      have ev65 : fa.tmps[65]?.getD undef = .int .i64 c := (hF.ev 10 65 (by kernel_rfl)).trans q10
      have ev67 : fa.tmps[67]?.getD undef = .int .i64 a := (hF.ev 12 67 (by kernel_rfl)).trans q12
      have ev69 : fa.tmps[69]?.getD undef = .int .i64 d := (hF.ev 14 69 (by kernel_rfl)).trans q14
      refine wpOp_call rfl (wanted_none rfl) (by go_simp; exact ⟨rfl, rfl⟩) ?_
      rw [hG, y7, hN] at hJ
      obtain ⟨⟨A, n1, c1, ev, hrd, hba⟩, hJ1⟩ := hJ.second
      refine (HR.out fW hJ1.ref (by have := hJ1.chg.size; omega)).mono ?_
      rintro e' w' ⟨A2, n2, c2, rfl, hrd2, hc, hs⟩
      have b1 : S_ fW w' := by rw [hS_]; trivial
      have j1 : G (fy 7) (some (.slice A2 n2 c2)) w' := by rw [hG, y7, ev]; exact .inr (.inr ⟨⟨A, n1, c1, rfl, hc.rds hrd (fun ad e h => by have := hba ad e; omega)⟩, ⟨A2, n2, c2, rfl, hrd2⟩, hJ1.r hc hs hbm (by omega)⟩)
      exact ⟨_, rfl, fK (.slice A2 n2 c2) (w') (b1) (by rw [hT]; exact trivial) (j1)⟩
    refine stepsAll_cons (k := 16) ?_ ?_
    · intro fa fx fW fy hF hN hJ hE K fK
      have hJ : G (fy 7) (fy 15) fW := hJ
      have q7 : (FactS.any : FactS S_).p (fx 7) fW := by have q := (hE ⟨7, .data⟩ (by simp) rfl).2; rw [hT] at q; exact q
      have y7 : fy 7 = some (fx 7) := (hE ⟨7, .data⟩ (by simp) rfl).1
      have q15 : (FactS.any : FactS S_).p (fx 15) fW := by have q := (hE ⟨15, .data⟩ (by simp) rfl).2; rw [hT] at q; exact q
      have y15 : fy 15 = some (fx 15) := (hE ⟨15, .data⟩ (by simp) rfl).1
      have ev62 : fa.tmps[62]?.getD undef = fx 7 := hF.ev 7 62 (by kernel_rfl)
      have ev70 : fa.tmps[70]?.getD undef = fx 15 := hF.ev 15 70 (by kernel_rfl)
      refine wpOp_call rfl (wanted_none rfl) (by go_simp; exact ⟨rfl, rfl⟩) ?_
      rw [hG, y7, y15] at hJ
      obtain ⟨⟨A, n1, c1, ea, hrd⟩, ⟨A2, n2, c2, eb, hrd2⟩, hJ1⟩ := hJ.third
      rw [ea, eb]
      refine (ints03 A n1 c1 v1 A2 n2 c2 v2 fW hrd hrd2).mono ?_
      rintro e' w' ⟨rfl, hbb⟩
      have b1 : S_ fW w' := by rw [hS_]; trivial
      have j1 : G (fy 7) (fy 15) w' := by rw [hG, y7, y15, ea, eb]; exact .inr (.inr ⟨⟨A, n1, c1, rfl, hrd.below hbb⟩, ⟨A2, n2, c2, rfl, hrd2.below hbb⟩, hJ1.below hbb⟩)
      exact ⟨_, rfl, fK (.bool (decide (v1 = v2))) (w') (b1) (by rw [hT]; exact rfl) (hP_ 16 _ fy w' rfl j1)⟩
    refine stepsAll_cons (k := 17) ?_ ?_
    · intro fa fx fW fy hF hN hJ hE K fK
      have hJ : G (fy 7) (fy 15) fW := hJ
      have q16 : fx 16 = .bool (decide (v1 = v2)) := by have q := (hE ⟨16, .data⟩ (by simp) rfl).2; rw [hT] at q; exact q
      have ev71 : fa.tmps[71]?.getD undef = .bool (decide (v1 = v2)) := (hF.ev 16 71 (by kernel_rfl)).trans q16
      refine wpOp_val rfl (wanted_none rfl) ?_ (fK (.bool (decide (v1 = v2))) fW (hR_ fW) (by rw [hT]; exact rfl) (hP_ 17 _ fy fW rfl hJ))
      clear fK hE hF hJ hN
      go_simp
    exact stepsAll_nil
  intro fa fx fW fy hF hJ0 hx
  have y7 : fy 7 = some (fx 7) := (hx 7 (by decide)).1
  have y15 : fy 15 = some (fx 15) := (hx 15 (by decide)).1
  have hJ : G (fy 7) (fy 15) fW := hJ0
  clear hJ0
  rw [y7, y15] at hJ
  have q17 : fx 17 = .bool (decide (v1 = v2)) := by have q := (hx 17 (by decide)).2; rw [hT] at q; exact q
  have ev6 : fa.tmps[6]?.getD undef = .bool (decide (v1 = v2)) := (hF.ev 17 6 (by kernel_rfl)).trans q17
  rw [hF.eq]
  clear hF hx hT T hP_ hR_ y7 y15
  simp only [putAll, Act.put, List.setIfInBounds_toArray, List.set_cons_zero, List.set_cons_succ, q17]
  rw [hG] at hJ
  have hJ1 := hJ.third.2.2
  go_wp2
  go_ret
  refine ⟨_, rfl, fun h => ?_, ?_⟩
  · rw [HT.out h]; simp
  · rw [HQ.out.1, HQ.out.2]; exact hJ1.from hal
theorem lawGet (q : AskV) (b m : Nat) (hq : q.ok) (s r : List Int × Int) (w : World) (H : Go7 L B C b m w s r) :
    Calls Try.prog 31 #[.pointer (some ⟨b, 0, none⟩), .pointer (some ⟨m, 0, none⟩), q.val] w (GetsB L B C b m w q s r) := by
  obtain ⟨k, a, d, n, c⟩ := q
  by_cases h0 : k = 0
  · exact lawGet0 b m k a d c n h0 hq s r w H
  by_cases h1 : k = 1
  · exact lawGet1 b m k a d c n h1 hq s r w H
  by_cases h2 : k = 2
  · exact lawGet2 b m k a d c n h2 hq s r w H
  by_cases h3 : k = 3
  · exact lawGet3 b m k a d c n h3 hq s r w H
  by_cases h4 : k = 4
  · exact lawGet4 b m k a d c n h4 hq s r w H
  exact lawGet5 b m k a d c n ⟨h0, h1, h2, h3, h4⟩ hq s r w H
end Go.Proofs.Ytdhckbpfkdekmaa
