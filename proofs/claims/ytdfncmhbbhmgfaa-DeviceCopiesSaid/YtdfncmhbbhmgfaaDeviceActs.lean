/- The law DeviceActs. -/
import Derived.Test.YtdfncmhbbhmgfaaDevAct
namespace Go.Proofs.Ytdfncmhbbhmgfaa
open Go.RowKit
def acs (l : List Ac) : List Value := l.flatMap acC
theorem acs_length : ∀ l : List Ac, (acs l).length = l.length * 7
  | [] => rfl
  | m :: l => by
    have := acs_length l
    simp only [acs, List.flatMap_cons, List.length_append, List.length_cons] at this ⊢
    rw [this]
    simp [acC]
    omega
theorem acs_get : ∀ (l : List Ac) (i : Nat) (m : Ac), l[i]? = some m → ∀ j u, (acC m)[j]? = some u → (acs l)[i * 7 + j]? = some u
  | [], i, m, h => by simp at h
  | a :: l, 0, m, h => fun j u hj => by
    simp at h
    subst h
    have hl : j < (acC a).length := (List.getElem?_eq_some_iff.1 hj).1
    simp only [acs, List.flatMap_cons, Nat.zero_mul, Nat.zero_add]
    rw [List.getElem?_append_left hl]
    exact hj
  | a :: l, i + 1, m, h => fun j u hj => by
    have h2 := acs_get l i m (by simpa using h) j u hj
    simp only [acs, List.flatMap_cons] at h2 ⊢
    have h3 : (acC a).length = 7 := rfl
    rw [List.getElem?_append_right (by omega), h3, show (i + 1) * 7 + j - 7 = i * 7 + j from by omega]
    exact h2
/-- The cells of an act at an address. -/
structure AcAt (w : World) (a : Addr) (m : Ac) : Prop where
  c0 : w.cell? a = some (.int .i64 m.kind)
  c1 : w.cell? ⟨a.block, a.off + 1, none⟩ = some (.int .i64 m.k)
  c2 : w.cell? ⟨a.block, a.off + 2, none⟩ = some (.int .i64 m.r.id)
  c3 : w.cell? ⟨a.block, a.off + 3, none⟩ = some (.int .i64 m.r.space)
  c4 : w.cell? ⟨a.block, a.off + 4, none⟩ = some (.int .i64 m.r.thread)
  c5 : w.cell? ⟨a.block, a.off + 5, none⟩ = some (.int .i64 m.r.kind)
  c6 : w.cell? ⟨a.block, a.off + 6, none⟩ = some (.int .i64 m.r.size)
theorem ac_read {w : World} {ad : Addr} {n c : Nat} {l : List Ac} (h : Rds w 7 (some ad) n c (acs l)) (k : Nat) (m : Ac) (hk : l[k]? = some m) : AcAt w (ad.add (k * 7)) m := by
  have h1 : ∀ j u, (acC m)[j]? = some u → w.cell? ((ad.add (k * 7)).add j) = some u := by
    intro j u hj
    rw [Go.Deep.add_add]
    exact h.cell ad rfl _ _ (acs_get l k m hk j u hj)
  exact ⟨h1 0 _ rfl, h1 1 _ rfl, h1 2 _ rfl, h1 3 _ rfl, h1 4 _ rfl, h1 5 _ rfl, h1 6 _ rfl⟩
set_option maxRecDepth 100000 in
set_option maxHeartbeats 4000000 in
theorem acts_lives (most : Int) (A : Option Addr) (n c : Nat) (w : World) (h : 200 < n ∨ most < 1 ∨ 4096 < most) : Calls Try.prog 5 #[.int .i64 most, .slice A n c] w fun e w' => e = .returned (.bool true) ∧ Below w.heap.size w w' := by
  have HL := Lib.hid (fun W => lives11 W)
  by_cases h1 : 200 < n
  · clear h
    go_enter Try.func5, Try.ntmps5
    go_wp2_with ((with_reducible refine (HL.out _).mono ?_); rintro e w' ⟨rfl, hb⟩)
    go_ret
    exact ⟨rfl, hb⟩
  · have h2 : most < 1 ∨ 4096 < most := by omega
    have HD := Lib.hid (dnew_no most w h2)
    have HR := Lib.hid (rnew_no most w h2)
    clear h h2
    go_enter Try.func5, Try.ntmps5
    go_wp2_with (first
      | ((with_reducible refine (HL.out _).mono ?_); rintro e w' ⟨rfl, hb⟩)
      | (go_at_call 8; (with_reducible refine HD.out.mono ?_); rintro e w1 ⟨rfl, rfl⟩)
      | (go_at_call 13; (with_reducible refine HR.out.mono ?_); rintro e w1 ⟨rfl, rfl⟩))
    go_ret
    exact ⟨rfl, hb⟩
theorem two_new {w w1 w2 : World} {most : Int} (hb1 : Below w.heap.size w w1) (hd : Dev w1 w.heap.size (w.heap.size + 1) most [] 0 0 (.slice none 0 0)) (hs1 : w.heap.size < w1.heap.size) (hb2 : Below w1.heap.size w1 w2) (hs2 : w1.heap.size < w2.heap.size) (hr : RDev w2 w1.heap.size (w1.heap.size + 1) most [] 0 0 (.slice none 0 0)) :
    Below w.heap.size w w2 ∧ Two w2 w.heap.size w.heap.size w1.heap.size w2.heap.size w2.heap.size most ⟨[], 0, 0⟩ ⟨[], 0, 0⟩ := by
  have hd2 := hd.below hb2
  refine ⟨below_tr hb1 hb2, .slice none 0 0, .slice none 0 0, ⟨hd2.room_, hd2.row, hd2.last_, hd2.done_, World.ownsRow_nil _ _ _ _, by intro e; cases e⟩, ⟨hr.room_, hr.row, hr.last_, hr.done_, World.ownsRow_nil _ _ _ _, by intro e; cases e⟩, ⟨by omega, (fun k e => by cases e), by omega, (fun k e => by cases e)⟩, by omega, (fun e => by cases e), (fun e => by cases e), (fun k e => by cases e), Nat.le_refl _, by omega, by omega⟩
def RowO (W : World) (l : List Rq) (o : Option Value) : Prop := ∀ u, o = some u → ∃ A n c, u = .slice A n c ∧ Rds W 5 A n c (rqs l)
/-- What stands behind act. -/
structure St2 (w : World) (base b1 b2 : Nat) (room : Int) (s : DS) (p e f : Option Value) (W : World) : Prop where
  be : Below base w W
  tw : Two W base b1 b2 W.heap.size W.heap.size room s s
  p : RowO W s.l p
  e : RowO W s.l e
  f : RowO W s.l f
theorem RowO.below {W W' : World} {l : List Rq} {o : Option Value} (h : RowO W l o) (hb : Below W.heap.size W W') : RowO W' l o := fun u e => by
  obtain ⟨A, n, c, h1, h2⟩ := h u e
  exact ⟨A, n, c, h1, h2.below hb⟩
theorem RowO.some_ {W : World} {l : List Rq} {A : Option Addr} {n c : Nat} (h : Rds W 5 A n c (rqs l)) : RowO W l (some (.slice A n c)) := fun u e => by cases e; exact ⟨A, n, c, rfl, h⟩
theorem St2.below {w W W' : World} {base b1 b2 : Nat} {room : Int} {s : DS} {p e f : Option Value} (h : St2 w base b1 b2 room s p e f W) (hb : Below W.heap.size W W') : St2 w base b1 b2 room s p e f W' :=
  ⟨below_then h.be h.tw.size hb, (h.tw.below hb).tight, h.p.below hb, h.e.below hb, h.f.below hb⟩
theorem St2.p_ {w W : World} {base b1 b2 : Nat} {room : Int} {s : DS} {p e f : Option Value} {A : Option Addr} {n c : Nat} (h : St2 w base b1 b2 room s p e f W) (hr : Rds W 5 A n c (rqs s.l)) : St2 w base b1 b2 room s (some (.slice A n c)) e f W := ⟨h.be, h.tw, RowO.some_ hr, h.e, h.f⟩
theorem St2.e_ {w W : World} {base b1 b2 : Nat} {room : Int} {s : DS} {p e f : Option Value} {A : Option Addr} {n c : Nat} (h : St2 w base b1 b2 room s p e f W) (hr : Rds W 5 A n c (rqs s.l)) : St2 w base b1 b2 room s p (some (.slice A n c)) f W := ⟨h.be, h.tw, h.p, RowO.some_ hr, h.f⟩
theorem St2.f_ {w W : World} {base b1 b2 : Nat} {room : Int} {s : DS} {p e f : Option Value} {A : Option Addr} {n c : Nat} (h : St2 w base b1 b2 room s p e f W) (hr : Rds W 5 A n c (rqs s.l)) : St2 w base b1 b2 room s p e (some (.slice A n c)) W := ⟨h.be, h.tw, h.p, h.e, RowO.some_ hr⟩
set_option maxRecDepth 100000 in
set_option maxHeartbeats 4000000 in
theorem acts_walk (most : Int) (A : Option Addr) (n c : Nat) (l : List Ac) (w : World) (hr : Rds w 7 A n c (acs l)) (hn : ¬ 200 < n) (hm1 : 1 ≤ most) (hm2 : most ≤ 4096) : Calls Try.prog 5 #[.int .i64 most, .slice A n c] w fun e w' => e = .returned (.bool true) ∧ Below w.heap.size w w' := by
  have HN : Hid (l.length = n) := by show _ = _; have := hr.len; rw [acs_length] at this; omega
  have HD := Lib.hid (dnew_yes most w hm1 hm2)
  have HR := Lib.hid (fun W => rnew_yes most W hm1 hm2)
  have hn2 : n ≤ 200 := by omega
  go_enter Try.func5, Try.ntmps5
  go_wp2_with (first
    | (go_at_call 8; (with_reducible refine HD.out.mono ?_); rintro e w1 ⟨rfl, hb1, hs1, hd1⟩)
    | (go_at_call 13; (with_reducible refine (HR.out _).mono ?_); rintro e w2 ⟨rfl, hb2, hs2, hr2⟩))
  obtain ⟨hB, hT⟩ := two_new hb1 hd1 hs1 hb2 hs2 hr2
  obtain ⟨b1, hb1'⟩ : ∃ x, x = w.heap.size := ⟨_, rfl⟩
  obtain ⟨base, hbase⟩ : ∃ x, x = w.heap.size := ⟨_, rfl⟩
  generalize w1.heap.size = b2 at *
  rw [show Value.pointer (some ⟨w.heap.size, 0, none⟩) = Value.pointer (some ⟨b1, 0, none⟩) by rw [hb1']]
  have hT' : Two w2 base b1 b2 w2.heap.size w2.heap.size most ⟨[], 0, 0⟩ ⟨[], 0, 0⟩ := by rw [hbase, hb1']; exact hT
  have hB' : Below base w w2 := by rw [hbase]; exact hB
  clear hT hB hb1 hd1 hs1 hb2 hs2 hr2 hb1' HD HR
  have hK0 : OkS most 0 ⟨[], 0, 0⟩ := ⟨by omega, hm2, by simp; omega, by simp, by simp, by simp, by simp, by omega⟩
  go_loopw [27] (fun i wr => ∃ (k : Nat) (s : DS), k ≤ n ∧ i = .int .i64 k ∧ Two wr base b1 b2 wr.heap.size wr.heap.size most s s ∧ OkS most k s ∧ Below base w wr) (fun i _ => n - (intOf i).toNat)
  case atStart => exact ⟨0, ⟨[], 0, 0⟩, Nat.zero_le _, rfl, hT', hK0, hB'⟩
  case round =>
    obtain ⟨k, s, hk, rfl, hT, hK, hb⟩ := hrel
    clear hT' hK0 hB'
    have hsz := hT.size
    by_cases hlt : k < n
    · have hkx : k < l.length := by rw [HN.out]; exact hlt
      obtain ⟨ad, rfl⟩ := hr.some_ (by omega)
      obtain ⟨h0, h1, h2, h3, h4, h5, h6⟩ := ac_read (hr.below (by rw [← hbase]; exact hb)) k l[k] (List.getElem?_eq_getElem hkx)
      have hK1 := hK.act l[k] (by omega)
      have hA := fun W (ht : Two W base b1 b2 W.heap.size W.heap.size most s s) => actW ht hK l[k]
      have HA := Lib.hid hA
      clear hA
      generalize l[k] = y at h0 h1 h2 h3 h4 h5 h6 hK1 HA
      generalize actS most s y = s1 at hK1 HA
      obtain ⟨kd, q, r⟩ := y
      obtain ⟨r1, r2, r3, r4, r5⟩ := r
      unfold acV at HA
      simp only at h0 h1 h2 h3 h4 h5 h6 HA
      go_wp2
      obtain ⟨W5, hW5⟩ : ∃ W5, W5 = wr.alloc (.cells #[.int .i64 kd, .int .i64 q, .int .i64 r1, .int .i64 r2, .int .i64 r3, .int .i64 r4, .int .i64 r5] (41 : Nat)) := ⟨_, rfl⟩
      rw [← hW5]
      have hal : Below wr.heap.size wr W5 := by rw [hW5]; exact below_al (Below.refl _ _) _
      have x0 : W5.cell? ⟨wr.heap.size, 0, none⟩ = some (.int .i64 kd) := by rw [hW5]; go_simp
      have x1 : W5.cell? ⟨wr.heap.size, 1, none⟩ = some (.int .i64 q) := by rw [hW5]; go_simp
      have x2 : W5.cell? ⟨wr.heap.size, 2, none⟩ = some (.int .i64 r1) := by rw [hW5]; go_simp
      have x3 : W5.cell? ⟨wr.heap.size, 3, none⟩ = some (.int .i64 r2) := by rw [hW5]; go_simp
      have x4 : W5.cell? ⟨wr.heap.size, 4, none⟩ = some (.int .i64 r3) := by rw [hW5]; go_simp
      have x5 : W5.cell? ⟨wr.heap.size, 5, none⟩ = some (.int .i64 r4) := by rw [hW5]; go_simp
      have x6 : W5.cell? ⟨wr.heap.size, 6, none⟩ = some (.int .i64 r5) := by rw [hW5]; go_simp
      have hT5 := (hT.below hal).tight
      have hb5 : Below base w W5 := below_then hb hsz (Below.up hal (Nat.le_refl _))
      obtain ⟨x, hx⟩ : ∃ x, x = wr.heap.size := ⟨_, rfl⟩
      rw [← hx] at x0 x1 x2 x3 x4 x5 x6
      rw [show Value.pointer (some ⟨wr.heap.size, 0, none⟩) = Value.pointer (some ⟨x, 0, none⟩) by rw [hx]]
      clear hx hW5 h0 h1 h2 h3 h4 h5 h6 hT hal hb
      obtain ⟨S0, hS0⟩ : ∃ S0 : Nat → Prop, S0 = fun k => base ≤ k := ⟨_, rfl⟩
      have hroom := hK1.r0
      have hlen : s1.l.length ≤ 4096 := by have := hK1.len; have := hK1.r1; omega
      obtain ⟨G, hG⟩ : ∃ G : Option Value → Option Value → Option Value → Option Value → Option Value → Option Value → Option Value → Option Value → Option Value → Option Value → World → Prop, ∀ a c g5 g7 g15 g17 g24 p e f W, G a c g5 g7 g15 g17 g24 p e f W = ((c = none ∧ g5 = none ∧ g7 = none ∧ g15 = none ∧ g17 = none ∧ g24 = none ∧ p = none ∧ e = none ∧ f = none ∧ Below W5.heap.size W5 W ∧ Below base w W) ∨ (a.isSome = true ∧ c.isSome = true ∧ St2 w base b1 b2 most s1 p e f W)) := ⟨_, fun _ _ _ _ _ _ _ _ _ _ _ => rfl⟩
      obtain ⟨S_, hS_⟩ : ∃ S_ : World → World → Prop, S_ = (Chg S0) := ⟨_, rfl⟩
      have hR_ : ∀ W, S_ W W := by intro W; rw [hS_]; exact Chg.refl _ _
      obtain ⟨T, hT⟩ : ∃ T : Nat → FactS S_, ∀ t_, T t_ = ([FactS.eq (.pointer (some ⟨b1, 0, none⟩)), FactS.eq (.pointer (some ⟨b2, 0, none⟩)), FactS.eq (.agg #[.int .i64 kd, .int .i64 q, .int .i64 r1, .int .i64 r2, .int .i64 r3, .int .i64 r4, .int .i64 r5]), FactS.eq (.bool true), FactS.eq (.bool false), FactS.eq (.bool false), FactS.eq (.pointer (some ⟨b1, 0, none⟩)), FactS.eq (.int .i64 s1.l.length), FactS.eq (.pointer (some ⟨b2, 0, none⟩)), FactS.eq (.pointer (some ⟨b2, 0, none⟩)), FactS.eq (.pointer (some ⟨b2, 1, none⟩)), FactS.val (fun u => ∃ A c, u = .slice A s1.l.length c), FactS.eq (.int .i64 s1.l.length), FactS.eq (.bool false), FactS.eq (.bool false), FactS.eq (.bool false), FactS.eq (.pointer (some ⟨b1, 0, none⟩)), FactS.eq (.int .i64 s1.done), FactS.eq (.pointer (some ⟨b2, 0, none⟩)), FactS.eq (.pointer (some ⟨b2, 0, none⟩)), FactS.eq (.pointer (some ⟨b2, 3, none⟩)), FactS.eq (.int .i64 s1.done), FactS.eq (.bool false), FactS.eq (.bool false), FactS.eq (.bool false), FactS.eq (.pointer (some ⟨b1, 0, none⟩)), FactS.any, FactS.any, FactS.eq (.pointer (some ⟨b2, 0, none⟩)), FactS.eq (.pointer (some ⟨b2, 0, none⟩)), FactS.eq (.pointer (some ⟨b2, 1, none⟩)), FactS.any, FactS.eq (.bool true), FactS.eq (.bool false), FactS.eq (.bool false)] : List (FactS S_)).getD t_ FactS.any := ⟨_, fun _ => rfl⟩
      have hP_ : ∀ i_ v_ (y_ : Nat → Option Value) W_, ([2, 3, 5, 7, 15, 17, 24, 26, 27, 31].contains i_) = false → G (y_ 2) (y_ 3) (y_ 5) (y_ 7) (y_ 15) (y_ 17) (y_ 24) (y_ 26) (y_ 27) (y_ 31) W_ → G (updY y_ i_ v_ 2) (updY y_ i_ v_ 3) (updY y_ i_ v_ 5) (updY y_ i_ v_ 7) (updY y_ i_ v_ 15) (updY y_ i_ v_ 17) (updY y_ i_ v_ 24) (updY y_ i_ v_ 26) (updY y_ i_ v_ 27) (updY y_ i_ v_ 31) W_ := by
        intro i_ v_ y_ W_ hi_ h_
        simp only [List.contains_cons, List.contains_nil, Bool.or_false, Bool.or_eq_false_iff, beq_eq_false_iff_ne, ne_eq] at hi_
        obtain ⟨i2_, i3_, i5_, i7_, i15_, i17_, i24_, i26_, i27_, i31_⟩ := hi_
        rw [updY_ne y_ i_ v_ i2_, updY_ne y_ i_ v_ i3_, updY_ne y_ i_ v_ i5_, updY_ne y_ i_ v_ i7_, updY_ne y_ i_ v_ i15_, updY_ne y_ i_ v_ i17_, updY_ne y_ i_ v_ i24_, updY_ne y_ i_ v_ i26_, updY_ne y_ i_ v_ i27_, updY_ne y_ i_ v_ i31_]
        exact h_
      refine region_tabJ [(0, 31), (1, 32), (2, 33), (3, 34), (4, 35), (5, 36), (6, 37), (7, 38), (8, 39), (9, 40), (10, 41), (11, 42), (12, 43), (13, 44), (14, 45), (15, 46), (16, 47), (17, 48), (18, 49), (19, 50), (20, 51), (21, 52), (22, 53), (23, 54), (24, 55), (25, 56), (26, 57), (27, 58), (28, 59), (29, 60), (30, 61), (31, 62), (32, 63), (33, 64), (34, 65)] S_ T (fun y_ W_ => G (y_ 2) (y_ 3) (y_ 5) (y_ 7) (y_ 15) (y_ 17) (y_ 24) (y_ 26) (y_ 27) (y_ 31) W_) (by kernel_rfl) (by kernel_rfl) (by kernel_rfl) (by kernel_rfl) (by kernel_rfl) ?_ ?_ ?_
      · skip
        show G none none none none none none none none none none _
        rw [hG]
        exact .inl ⟨rfl, rfl, rfl, rfl, rfl, rfl, rfl, rfl, rfl, below_dr (Below.refl _ _) 1, below_dr hb5 1⟩
      · skip
        refine stepsAll_cons (k := 0) ?_ ?_
        · intro fa fx fW fy hF hN hJ hE K fK
          have hJ : G (fy 2) (fy 3) (fy 5) (fy 7) (fy 15) (fy 17) (fy 24) (fy 26) (fy 27) (fy 31) fW := hJ
          have ev5 : fa.tmps[5]?.getD undef = .pointer (some ⟨b1, 0, none⟩) := hF.eo 5 (by kernel_rfl)
          refine wpOp_val rfl (wanted_none rfl) ?_ (fK (.pointer (some ⟨b1, 0, none⟩)) fW (hR_ fW) (by rw [hT]; exact rfl) (hP_ 0 _ fy fW rfl hJ))
          clear fK hE hF hJ hN
          go_simp
        refine stepsAll_cons (k := 1) ?_ ?_
        · intro fa fx fW fy hF hN hJ hE K fK
          have hJ : G (fy 2) (fy 3) (fy 5) (fy 7) (fy 15) (fy 17) (fy 24) (fy 26) (fy 27) (fy 31) fW := hJ
          have ev6 : fa.tmps[6]?.getD undef = .pointer (some ⟨b2, 0, none⟩) := hF.eo 6 (by kernel_rfl)
          refine wpOp_val rfl (wanted_none rfl) ?_ (fK (.pointer (some ⟨b2, 0, none⟩)) fW (hR_ fW) (by rw [hT]; exact rfl) (hP_ 1 _ fy fW rfl hJ))
          clear fK hE hF hJ hN
          go_simp
        refine stepsAll_cons (k := 2) ?_ ?_
        · intro fa fx fW fy hF hN hJ hE K fK
          have hJ : G (fy 2) (fy 3) (fy 5) (fy 7) (fy 15) (fy 17) (fy 24) (fy 26) (fy 27) (fy 31) fW := hJ
          have ev8 : fa.tmps[8]?.getD undef = .pointer (some ⟨x, 0, none⟩) := hF.eo 8 (by kernel_rfl)
          rw [hG, hN] at hJ
          have hs := hJ.resolve_right (by simp)
          obtain ⟨k0, k1, k2, k3, k4, k5, k6, k7, k8, hbw, hbb⟩ := hs
          have z0 := cell_below hbw x0
          have z1 := cell_below hbw x1
          have z2 := cell_below hbw x2
          have z3 := cell_below hbw x3
          have z4 := cell_below hbw x4
          have z5 := cell_below hbw x5
          have z6 := cell_below hbw x6
          refine wpOp_val rfl (wanted_none rfl) (v := .agg #[.int .i64 kd, .int .i64 q, .int .i64 r1, .int .i64 r2, .int .i64 r3, .int .i64 r4, .int .i64 r5]) (by clear fK hE hF hN hJ hbw hbb k0 k1 k2 k3 k4 k5 k6 k7 k8; go_simp) (fK _ _ (hR_ fW) (by rw [hT]; exact rfl) ?_)
          show G (some _) (fy 3) (fy 5) (fy 7) (fy 15) (fy 17) (fy 24) (fy 26) (fy 27) (fy 31) fW
          rw [hG]
          exact .inl ⟨k0, k1, k2, k3, k4, k5, k6, k7, k8, hbw, hbb⟩
        refine stepsAll_cons (k := 3) ?_ ?_
        · intro fa fx fW fy hF hN hJ hE K fK
          have hJ : G (fy 2) (fy 3) (fy 5) (fy 7) (fy 15) (fy 17) (fy 24) (fy 26) (fy 27) (fy 31) fW := hJ
          have q0 : fx 0 = .pointer (some ⟨b1, 0, none⟩) := by have q := (hE ⟨0, .data⟩ (by simp) rfl).2; rw [hT] at q; exact q
          have q1 : fx 1 = .pointer (some ⟨b2, 0, none⟩) := by have q := (hE ⟨1, .data⟩ (by simp) rfl).2; rw [hT] at q; exact q
          have q2 : fx 2 = .agg #[.int .i64 kd, .int .i64 q, .int .i64 r1, .int .i64 r2, .int .i64 r3, .int .i64 r4, .int .i64 r5] := by have q := (hE ⟨2, .data⟩ (by simp) rfl).2; rw [hT] at q; exact q
          have y2 : fy 2 = some (fx 2) := (hE ⟨2, .data⟩ (by simp) rfl).1
          have ev31 : fa.tmps[31]?.getD undef = .pointer (some ⟨b1, 0, none⟩) := (hF.ev 0 31 (by kernel_rfl)).trans q0
          have ev32 : fa.tmps[32]?.getD undef = .pointer (some ⟨b2, 0, none⟩) := (hF.ev 1 32 (by kernel_rfl)).trans q1
          have ev33 : fa.tmps[33]?.getD undef = .agg #[.int .i64 kd, .int .i64 q, .int .i64 r1, .int .i64 r2, .int .i64 r3, .int .i64 r4, .int .i64 r5] := (hF.ev 2 33 (by kernel_rfl)).trans q2
          refine wpOp_call rfl (wanted_none rfl) (by go_simp; exact ⟨rfl, rfl⟩) ?_
          rw [hG, hN, y2] at hJ
          have hs := hJ.resolve_right (by simp)
          obtain ⟨k0, k1, k2, k3, k4, k5, k6, k7, k8, hbw, hbb⟩ := hs
          refine (HA.out fW (hT5.below hbw).tight).mono ?_
          rintro e' w' ⟨rfl, hb9, ht⟩
          refine ⟨_, rfl, fK (.bool true) w' (by rw [hS_, hS0]; exact ⟨hb9.os, hb9.tape, hb9.output, hb9.size, fun i hi hn => hb9.block i (by omega)⟩) (by rw [hT]; exact rfl) ?_⟩
          show G (fy 2) (some _) (fy 5) (fy 7) (fy 15) (fy 17) (fy 24) (fy 26) (fy 27) (fy 31) w'
          rw [hG, y2, k6, k7, k8]
          exact .inr ⟨rfl, rfl, hbb.trans hb9, ht, (fun u e => by cases e), (fun u e => by cases e), (fun u e => by cases e)⟩
        refine stepsAll_cons (k := 4) ?_ ?_
        · intro fa fx fW fy hF hN hJ hE K fK
          have hJ : G (fy 2) (fy 3) (fy 5) (fy 7) (fy 15) (fy 17) (fy 24) (fy 26) (fy 27) (fy 31) fW := hJ
          have q3 : fx 3 = .bool true := by have q := (hE ⟨3, .data⟩ (by simp) rfl).2; rw [hT] at q; exact q
          have y3 : fy 3 = some (fx 3) := (hE ⟨3, .data⟩ (by simp) rfl).1
          have ev34 : fa.tmps[34]?.getD undef = .bool true := (hF.ev 3 34 (by kernel_rfl)).trans q3
          refine wpOp_val rfl (wanted_none rfl) ?_ (fK (.bool false) fW (hR_ fW) (by rw [hT]; exact rfl) (hP_ 4 _ fy fW rfl hJ))
          clear fK hE hF hJ hN
          go_simp
        refine stepsAll_cons (k := 5) ?_ ?_
        · intro fa fx fW fy hF hN hJ hE K fK
          have hJ : G (fy 2) (fy 3) (fy 5) (fy 7) (fy 15) (fy 17) (fy 24) (fy 26) (fy 27) (fy 31) fW := hJ
          have q3 : fx 3 = .bool true := by have q := (hE ⟨3, .chain⟩ (by simp) rfl).2; rw [hT] at q; exact q
          have y3 : fy 3 = some (fx 3) := (hE ⟨3, .chain⟩ (by simp) rfl).1
          have q4 : fx 4 = .bool false := by have q := (hE ⟨4, .data⟩ (by simp) rfl).2; rw [hT] at q; exact q
          have ev35 : fa.tmps[35]?.getD undef = .bool false := (hF.ev 4 35 (by kernel_rfl)).trans q4
          rw [hG, y3] at hJ
          have hs := hJ.resolve_left (by simp)
          obtain ⟨ha, hc, hs⟩ := hs
          refine wpOp_val rfl (wanted_none rfl) (v := .bool false) (by clear fK hE hF hN ha hc hs; go_simp) (fK _ _ (hR_ fW) (by rw [hT]; exact rfl) ?_)
          show G (fy 2) (fy 3) (some _) (fy 7) (fy 15) (fy 17) (fy 24) (fy 26) (fy 27) (fy 31) fW
          rw [hG]
          exact .inr ⟨ha, (by first | exact hc | (rw [y3]; rfl)), hs⟩
        refine stepsAll_cons (k := 6) ?_ ?_
        · intro fa fx fW fy hF hN hJ hE K fK
          have hJ : G (fy 2) (fy 3) (fy 5) (fy 7) (fy 15) (fy 17) (fy 24) (fy 26) (fy 27) (fy 31) fW := hJ
          have q5 : fx 5 = .bool false := by have q := (hE ⟨5, .guard⟩ (by simp) rfl).2; rw [hT] at q; exact q
          have y5 : fy 5 = some (fx 5) := (hE ⟨5, .guard⟩ (by simp) rfl).1
          have ev5 : fa.tmps[5]?.getD undef = .pointer (some ⟨b1, 0, none⟩) := hF.eo 5 (by kernel_rfl)
          refine wpOp_val rfl (wanted_not rfl (hF.yes 5 36 (by kernel_rfl) false q5)) ?_ (fK (.pointer (some ⟨b1, 0, none⟩)) fW (hR_ fW) (by rw [hT]; exact rfl) (hP_ 6 _ fy fW rfl hJ))
          clear fK hE hF hJ hN
          go_simp
        refine stepsAll_cons (k := 7) ?_ ?_
        · intro fa fx fW fy hF hN hJ hE K fK
          have hJ : G (fy 2) (fy 3) (fy 5) (fy 7) (fy 15) (fy 17) (fy 24) (fy 26) (fy 27) (fy 31) fW := hJ
          have q5 : fx 5 = .bool false := by have q := (hE ⟨5, .chain⟩ (by simp) rfl).2; rw [hT] at q; exact q
          have y5 : fy 5 = some (fx 5) := (hE ⟨5, .chain⟩ (by simp) rfl).1
          have q6 : fx 6 = .pointer (some ⟨b1, 0, none⟩) := by have q := (hE ⟨6, .data⟩ (by simp) rfl).2; rw [hT] at q; exact q
          have ev37 : fa.tmps[37]?.getD undef = .pointer (some ⟨b1, 0, none⟩) := (hF.ev 6 37 (by kernel_rfl)).trans q6
          refine wpOp_call rfl (wanted_not rfl (hF.yes 5 36 (by kernel_rfl) false q5)) (by go_simp; exact ⟨rfl, rfl⟩) ?_
          rw [hG, y5] at hJ
          have hs := hJ.resolve_left (by simp)
          obtain ⟨ha, hc, hs⟩ := hs
          obtain ⟨v1, v2, d1, d2, _⟩ := hs.tw
          refine (dlen b1 base most _ _ _ v1 fW d1 hroom).mono ?_
          rintro e' w' ⟨rfl, rfl⟩
          refine ⟨_, rfl, fK (.int .i64 s1.l.length) fW (hR_ fW) (by rw [hT]; exact rfl) ?_⟩
          show G (fy 2) (fy 3) (fy 5) (some _) (fy 15) (fy 17) (fy 24) (fy 26) (fy 27) (fy 31) fW
          rw [hG]
          exact .inr ⟨ha, hc, hs⟩
        refine stepsAll_cons (k := 8) ?_ ?_
        · intro fa fx fW fy hF hN hJ hE K fK
          have hJ : G (fy 2) (fy 3) (fy 5) (fy 7) (fy 15) (fy 17) (fy 24) (fy 26) (fy 27) (fy 31) fW := hJ
          have q5 : fx 5 = .bool false := by have q := (hE ⟨5, .guard⟩ (by simp) rfl).2; rw [hT] at q; exact q
          have y5 : fy 5 = some (fx 5) := (hE ⟨5, .guard⟩ (by simp) rfl).1
          have ev6 : fa.tmps[6]?.getD undef = .pointer (some ⟨b2, 0, none⟩) := hF.eo 6 (by kernel_rfl)
          refine wpOp_val rfl (wanted_not rfl (hF.yes 5 36 (by kernel_rfl) false q5)) ?_ (fK (.pointer (some ⟨b2, 0, none⟩)) fW (hR_ fW) (by rw [hT]; exact rfl) (hP_ 8 _ fy fW rfl hJ))
          clear fK hE hF hJ hN
          go_simp
        refine stepsAll_cons (k := 9) ?_ ?_
        · intro fa fx fW fy hF hN hJ hE K fK
          have hJ : G (fy 2) (fy 3) (fy 5) (fy 7) (fy 15) (fy 17) (fy 24) (fy 26) (fy 27) (fy 31) fW := hJ
          have q5 : fx 5 = .bool false := by have q := (hE ⟨5, .guard⟩ (by simp) rfl).2; rw [hT] at q; exact q
          have y5 : fy 5 = some (fx 5) := (hE ⟨5, .guard⟩ (by simp) rfl).1
          have q8 : fx 8 = .pointer (some ⟨b2, 0, none⟩) := by have q := (hE ⟨8, .data⟩ (by simp) rfl).2; rw [hT] at q; exact q
          have ev39 : fa.tmps[39]?.getD undef = .pointer (some ⟨b2, 0, none⟩) := (hF.ev 8 39 (by kernel_rfl)).trans q8
          refine wpOp_val rfl (wanted_not rfl (hF.yes 5 36 (by kernel_rfl) false q5)) ?_ (fK (.pointer (some ⟨b2, 0, none⟩)) fW (hR_ fW) (by rw [hT]; exact rfl) (hP_ 9 _ fy fW rfl hJ))
          clear fK hE hF hJ hN
          go_simp
        refine stepsAll_cons (k := 10) ?_ ?_
        · intro fa fx fW fy hF hN hJ hE K fK
          have hJ : G (fy 2) (fy 3) (fy 5) (fy 7) (fy 15) (fy 17) (fy 24) (fy 26) (fy 27) (fy 31) fW := hJ
          have q5 : fx 5 = .bool false := by have q := (hE ⟨5, .guard⟩ (by simp) rfl).2; rw [hT] at q; exact q
          have y5 : fy 5 = some (fx 5) := (hE ⟨5, .guard⟩ (by simp) rfl).1
          have q9 : fx 9 = .pointer (some ⟨b2, 0, none⟩) := by have q := (hE ⟨9, .data⟩ (by simp) rfl).2; rw [hT] at q; exact q
          have ev40 : fa.tmps[40]?.getD undef = .pointer (some ⟨b2, 0, none⟩) := (hF.ev 9 40 (by kernel_rfl)).trans q9
          refine wpOp_val rfl (wanted_not rfl (hF.yes 5 36 (by kernel_rfl) false q5)) ?_ (fK (.pointer (some ⟨b2, 1, none⟩)) fW (hR_ fW) (by rw [hT]; exact rfl) (hP_ 10 _ fy fW rfl hJ))
          clear fK hE hF hJ hN
          go_simp
        refine stepsAll_cons (k := 11) ?_ ?_
        · intro fa fx fW fy hF hN hJ hE K fK
          have hJ : G (fy 2) (fy 3) (fy 5) (fy 7) (fy 15) (fy 17) (fy 24) (fy 26) (fy 27) (fy 31) fW := hJ
          have q5 : fx 5 = .bool false := by have q := (hE ⟨5, .guard⟩ (by simp) rfl).2; rw [hT] at q; exact q
          have y5 : fy 5 = some (fx 5) := (hE ⟨5, .guard⟩ (by simp) rfl).1
          have q10 : fx 10 = .pointer (some ⟨b2, 1, none⟩) := by have q := (hE ⟨10, .data⟩ (by simp) rfl).2; rw [hT] at q; exact q
          have ev41 : fa.tmps[41]?.getD undef = .pointer (some ⟨b2, 1, none⟩) := (hF.ev 10 41 (by kernel_rfl)).trans q10
          have hJ1 := hJ
          rw [hG, y5] at hJ1
          have hs := (hJ1.resolve_left (by simp)).2.2
          obtain ⟨v1, v2, d1, d2, _⟩ := hs.tw
          have yr := d2.row.cell
          obtain ⟨A, nn, c, hu, hn9, _⟩ := own_open d2.own
          have hn9 := hn9.out
          subst hn9
          rw [hu] at yr
          refine wpOp_val rfl (wanted_not rfl (hF.yes 5 36 (by kernel_rfl) false q5)) (v := .slice A s1.l.length c) (by clear fK hE hF hN hJ hs; go_simp) (fK _ _ (hR_ fW) (by rw [hT]; exact ⟨A, c, rfl⟩) (hP_ 11 _ fy fW rfl hJ))
        refine stepsAll_cons (k := 12) ?_ ?_
        · intro fa fx fW fy hF hN hJ hE K fK
          have hJ : G (fy 2) (fy 3) (fy 5) (fy 7) (fy 15) (fy 17) (fy 24) (fy 26) (fy 27) (fy 31) fW := hJ
          have q5 : fx 5 = .bool false := by have q := (hE ⟨5, .guard⟩ (by simp) rfl).2; rw [hT] at q; exact q
          have y5 : fy 5 = some (fx 5) := (hE ⟨5, .guard⟩ (by simp) rfl).1
          have q11 : (FactS.val (fun u => ∃ A c, u = .slice A s1.l.length c) : FactS S_).p (fx 11) fW := by have q := (hE ⟨11, .data⟩ (by simp) rfl).2; rw [hT] at q; exact q
          have ev42 : fa.tmps[42]?.getD undef = fx 11 := hF.ev 11 42 (by kernel_rfl)
          refine wpOp_val rfl (wanted_not rfl (hF.yes 5 36 (by kernel_rfl) false q5)) ?_ (fK (.int .i64 s1.l.length) fW (hR_ fW) (by rw [hT]; exact rfl) (hP_ 12 _ fy fW rfl hJ))
          clear fK hE hF hJ hN
          obtain ⟨A, c, e⟩ := q11
          rw [e] at ev42
          go_simp
        refine stepsAll_cons (k := 13) ?_ ?_
        · intro fa fx fW fy hF hN hJ hE K fK
          have hJ : G (fy 2) (fy 3) (fy 5) (fy 7) (fy 15) (fy 17) (fy 24) (fy 26) (fy 27) (fy 31) fW := hJ
          have q5 : fx 5 = .bool false := by have q := (hE ⟨5, .guard⟩ (by simp) rfl).2; rw [hT] at q; exact q
          have y5 : fy 5 = some (fx 5) := (hE ⟨5, .guard⟩ (by simp) rfl).1
          have q7 : fx 7 = .int .i64 s1.l.length := by have q := (hE ⟨7, .data⟩ (by simp) rfl).2; rw [hT] at q; exact q
          have y7 : fy 7 = some (fx 7) := (hE ⟨7, .data⟩ (by simp) rfl).1
          have q12 : fx 12 = .int .i64 s1.l.length := by have q := (hE ⟨12, .data⟩ (by simp) rfl).2; rw [hT] at q; exact q
          have ev38 : fa.tmps[38]?.getD undef = .int .i64 s1.l.length := (hF.ev 7 38 (by kernel_rfl)).trans q7
          have ev43 : fa.tmps[43]?.getD undef = .int .i64 s1.l.length := (hF.ev 12 43 (by kernel_rfl)).trans q12
          refine wpOp_val rfl (wanted_not rfl (hF.yes 5 36 (by kernel_rfl) false q5)) ?_ (fK (.bool false) fW (hR_ fW) (by rw [hT]; exact rfl) (hP_ 13 _ fy fW rfl hJ))
          clear fK hE hF hJ hN
          go_simp
        refine stepsAll_cons (k := 14) ?_ ?_
        · intro fa fx fW fy hF hN hJ hE K fK
          have hJ : G (fy 2) (fy 3) (fy 5) (fy 7) (fy 15) (fy 17) (fy 24) (fy 26) (fy 27) (fy 31) fW := hJ
          have q5 : fx 5 = .bool false := by have q := (hE ⟨5, .data⟩ (by simp) rfl).2; rw [hT] at q; exact q
          have y5 : fy 5 = some (fx 5) := (hE ⟨5, .data⟩ (by simp) rfl).1
          have q13 : fx 13 = .bool false := by have q := (hE ⟨13, .data⟩ (by simp) rfl).2; rw [hT] at q; exact q
          have ev36 : fa.tmps[36]?.getD undef = .bool false := (hF.ev 5 36 (by kernel_rfl)).trans q5
          have ev44 : fa.tmps[44]?.getD undef = .bool false := (hF.ev 13 44 (by kernel_rfl)).trans q13
          refine wpOp_val rfl (wanted_none rfl) ?_ (fK (.bool false) fW (hR_ fW) (by rw [hT]; exact rfl) (hP_ 14 _ fy fW rfl hJ))
          clear fK hE hF hJ hN
          go_simp
        refine stepsAll_cons (k := 15) ?_ ?_
        · intro fa fx fW fy hF hN hJ hE K fK
          have hJ : G (fy 2) (fy 3) (fy 5) (fy 7) (fy 15) (fy 17) (fy 24) (fy 26) (fy 27) (fy 31) fW := hJ
          have q7 : fx 7 = .int .i64 s1.l.length := by have q := (hE ⟨7, .chain⟩ (by simp) rfl).2; rw [hT] at q; exact q
          have y7 : fy 7 = some (fx 7) := (hE ⟨7, .chain⟩ (by simp) rfl).1
          have q14 : fx 14 = .bool false := by have q := (hE ⟨14, .data⟩ (by simp) rfl).2; rw [hT] at q; exact q
          have ev45 : fa.tmps[45]?.getD undef = .bool false := (hF.ev 14 45 (by kernel_rfl)).trans q14
          rw [hG, y7] at hJ
          have hs := hJ.resolve_left (by simp)
          obtain ⟨ha, hc, hs⟩ := hs
          refine wpOp_val rfl (wanted_none rfl) (v := .bool false) (by clear fK hE hF hN ha hc hs; go_simp) (fK _ _ (hR_ fW) (by rw [hT]; exact rfl) ?_)
          show G (fy 2) (fy 3) (fy 5) (fy 7) (some _) (fy 17) (fy 24) (fy 26) (fy 27) (fy 31) fW
          rw [hG]
          exact .inr ⟨ha, (by first | exact hc | (rw [y3]; rfl)), hs⟩
        refine stepsAll_cons (k := 16) ?_ ?_
        · intro fa fx fW fy hF hN hJ hE K fK
          have hJ : G (fy 2) (fy 3) (fy 5) (fy 7) (fy 15) (fy 17) (fy 24) (fy 26) (fy 27) (fy 31) fW := hJ
          have q15 : fx 15 = .bool false := by have q := (hE ⟨15, .guard⟩ (by simp) rfl).2; rw [hT] at q; exact q
          have y15 : fy 15 = some (fx 15) := (hE ⟨15, .guard⟩ (by simp) rfl).1
          have ev5 : fa.tmps[5]?.getD undef = .pointer (some ⟨b1, 0, none⟩) := hF.eo 5 (by kernel_rfl)
          refine wpOp_val rfl (wanted_not rfl (hF.yes 15 46 (by kernel_rfl) false q15)) ?_ (fK (.pointer (some ⟨b1, 0, none⟩)) fW (hR_ fW) (by rw [hT]; exact rfl) (hP_ 16 _ fy fW rfl hJ))
          clear fK hE hF hJ hN
          go_simp
        refine stepsAll_cons (k := 17) ?_ ?_
        · intro fa fx fW fy hF hN hJ hE K fK
          have hJ : G (fy 2) (fy 3) (fy 5) (fy 7) (fy 15) (fy 17) (fy 24) (fy 26) (fy 27) (fy 31) fW := hJ
          have q15 : fx 15 = .bool false := by have q := (hE ⟨15, .chain⟩ (by simp) rfl).2; rw [hT] at q; exact q
          have y15 : fy 15 = some (fx 15) := (hE ⟨15, .chain⟩ (by simp) rfl).1
          have q16 : fx 16 = .pointer (some ⟨b1, 0, none⟩) := by have q := (hE ⟨16, .data⟩ (by simp) rfl).2; rw [hT] at q; exact q
          have ev47 : fa.tmps[47]?.getD undef = .pointer (some ⟨b1, 0, none⟩) := (hF.ev 16 47 (by kernel_rfl)).trans q16
          refine wpOp_call rfl (wanted_not rfl (hF.yes 15 46 (by kernel_rfl) false q15)) (by go_simp; exact ⟨rfl, rfl⟩) ?_
          rw [hG, y15] at hJ
          have hs := hJ.resolve_left (by simp)
          obtain ⟨ha, hc, hs⟩ := hs
          obtain ⟨v1, v2, d1, d2, _⟩ := hs.tw
          refine (ddone b1 base most _ _ _ v1 fW d1 hroom).mono ?_
          rintro e' w' ⟨rfl, rfl⟩
          refine ⟨_, rfl, fK (.int .i64 s1.done) fW (hR_ fW) (by rw [hT]; exact rfl) ?_⟩
          show G (fy 2) (fy 3) (fy 5) (fy 7) (fy 15) (some _) (fy 24) (fy 26) (fy 27) (fy 31) fW
          rw [hG]
          exact .inr ⟨ha, hc, hs⟩
        refine stepsAll_cons (k := 18) ?_ ?_
        · intro fa fx fW fy hF hN hJ hE K fK
          have hJ : G (fy 2) (fy 3) (fy 5) (fy 7) (fy 15) (fy 17) (fy 24) (fy 26) (fy 27) (fy 31) fW := hJ
          have q15 : fx 15 = .bool false := by have q := (hE ⟨15, .guard⟩ (by simp) rfl).2; rw [hT] at q; exact q
          have y15 : fy 15 = some (fx 15) := (hE ⟨15, .guard⟩ (by simp) rfl).1
          have ev6 : fa.tmps[6]?.getD undef = .pointer (some ⟨b2, 0, none⟩) := hF.eo 6 (by kernel_rfl)
          refine wpOp_val rfl (wanted_not rfl (hF.yes 15 46 (by kernel_rfl) false q15)) ?_ (fK (.pointer (some ⟨b2, 0, none⟩)) fW (hR_ fW) (by rw [hT]; exact rfl) (hP_ 18 _ fy fW rfl hJ))
          clear fK hE hF hJ hN
          go_simp
        refine stepsAll_cons (k := 19) ?_ ?_
        · intro fa fx fW fy hF hN hJ hE K fK
          have hJ : G (fy 2) (fy 3) (fy 5) (fy 7) (fy 15) (fy 17) (fy 24) (fy 26) (fy 27) (fy 31) fW := hJ
          have q15 : fx 15 = .bool false := by have q := (hE ⟨15, .guard⟩ (by simp) rfl).2; rw [hT] at q; exact q
          have y15 : fy 15 = some (fx 15) := (hE ⟨15, .guard⟩ (by simp) rfl).1
          have q18 : fx 18 = .pointer (some ⟨b2, 0, none⟩) := by have q := (hE ⟨18, .data⟩ (by simp) rfl).2; rw [hT] at q; exact q
          have ev49 : fa.tmps[49]?.getD undef = .pointer (some ⟨b2, 0, none⟩) := (hF.ev 18 49 (by kernel_rfl)).trans q18
          refine wpOp_val rfl (wanted_not rfl (hF.yes 15 46 (by kernel_rfl) false q15)) ?_ (fK (.pointer (some ⟨b2, 0, none⟩)) fW (hR_ fW) (by rw [hT]; exact rfl) (hP_ 19 _ fy fW rfl hJ))
          clear fK hE hF hJ hN
          go_simp
        refine stepsAll_cons (k := 20) ?_ ?_
        · intro fa fx fW fy hF hN hJ hE K fK
          have hJ : G (fy 2) (fy 3) (fy 5) (fy 7) (fy 15) (fy 17) (fy 24) (fy 26) (fy 27) (fy 31) fW := hJ
          have q15 : fx 15 = .bool false := by have q := (hE ⟨15, .guard⟩ (by simp) rfl).2; rw [hT] at q; exact q
          have y15 : fy 15 = some (fx 15) := (hE ⟨15, .guard⟩ (by simp) rfl).1
          have q19 : fx 19 = .pointer (some ⟨b2, 0, none⟩) := by have q := (hE ⟨19, .data⟩ (by simp) rfl).2; rw [hT] at q; exact q
          have ev50 : fa.tmps[50]?.getD undef = .pointer (some ⟨b2, 0, none⟩) := (hF.ev 19 50 (by kernel_rfl)).trans q19
          refine wpOp_val rfl (wanted_not rfl (hF.yes 15 46 (by kernel_rfl) false q15)) ?_ (fK (.pointer (some ⟨b2, 3, none⟩)) fW (hR_ fW) (by rw [hT]; exact rfl) (hP_ 20 _ fy fW rfl hJ))
          clear fK hE hF hJ hN
          go_simp
        refine stepsAll_cons (k := 21) ?_ ?_
        · intro fa fx fW fy hF hN hJ hE K fK
          have hJ : G (fy 2) (fy 3) (fy 5) (fy 7) (fy 15) (fy 17) (fy 24) (fy 26) (fy 27) (fy 31) fW := hJ
          have q15 : fx 15 = .bool false := by have q := (hE ⟨15, .guard⟩ (by simp) rfl).2; rw [hT] at q; exact q
          have y15 : fy 15 = some (fx 15) := (hE ⟨15, .guard⟩ (by simp) rfl).1
          have q20 : fx 20 = .pointer (some ⟨b2, 3, none⟩) := by have q := (hE ⟨20, .data⟩ (by simp) rfl).2; rw [hT] at q; exact q
          have ev51 : fa.tmps[51]?.getD undef = .pointer (some ⟨b2, 3, none⟩) := (hF.ev 20 51 (by kernel_rfl)).trans q20
          have hJ1 := hJ
          rw [hG, y15] at hJ1
          have hs := (hJ1.resolve_left (by simp)).2.2
          obtain ⟨v1, v2, d1, d2, _⟩ := hs.tw
          have yr := d2.done_.cell
          clear hJ1 hs d1 d2
          refine wpOp_val rfl (wanted_not rfl (hF.yes 15 46 (by kernel_rfl) false q15)) ?_ (fK (.int .i64 s1.done) fW (hR_ fW) (by rw [hT]; exact rfl) (hP_ 21 _ fy fW rfl hJ))
          clear fK hE hF hJ hN
          go_simp
        refine stepsAll_cons (k := 22) ?_ ?_
        · intro fa fx fW fy hF hN hJ hE K fK
          have hJ : G (fy 2) (fy 3) (fy 5) (fy 7) (fy 15) (fy 17) (fy 24) (fy 26) (fy 27) (fy 31) fW := hJ
          have q15 : fx 15 = .bool false := by have q := (hE ⟨15, .guard⟩ (by simp) rfl).2; rw [hT] at q; exact q
          have y15 : fy 15 = some (fx 15) := (hE ⟨15, .guard⟩ (by simp) rfl).1
          have q17 : fx 17 = .int .i64 s1.done := by have q := (hE ⟨17, .data⟩ (by simp) rfl).2; rw [hT] at q; exact q
          have y17 : fy 17 = some (fx 17) := (hE ⟨17, .data⟩ (by simp) rfl).1
          have q21 : fx 21 = .int .i64 s1.done := by have q := (hE ⟨21, .data⟩ (by simp) rfl).2; rw [hT] at q; exact q
          have ev48 : fa.tmps[48]?.getD undef = .int .i64 s1.done := (hF.ev 17 48 (by kernel_rfl)).trans q17
          have ev52 : fa.tmps[52]?.getD undef = .int .i64 s1.done := (hF.ev 21 52 (by kernel_rfl)).trans q21
          refine wpOp_val rfl (wanted_not rfl (hF.yes 15 46 (by kernel_rfl) false q15)) ?_ (fK (.bool false) fW (hR_ fW) (by rw [hT]; exact rfl) (hP_ 22 _ fy fW rfl hJ))
          clear fK hE hF hJ hN
          go_simp
        refine stepsAll_cons (k := 23) ?_ ?_
        · intro fa fx fW fy hF hN hJ hE K fK
          have hJ : G (fy 2) (fy 3) (fy 5) (fy 7) (fy 15) (fy 17) (fy 24) (fy 26) (fy 27) (fy 31) fW := hJ
          have q15 : fx 15 = .bool false := by have q := (hE ⟨15, .data⟩ (by simp) rfl).2; rw [hT] at q; exact q
          have y15 : fy 15 = some (fx 15) := (hE ⟨15, .data⟩ (by simp) rfl).1
          have q22 : fx 22 = .bool false := by have q := (hE ⟨22, .data⟩ (by simp) rfl).2; rw [hT] at q; exact q
          have ev46 : fa.tmps[46]?.getD undef = .bool false := (hF.ev 15 46 (by kernel_rfl)).trans q15
          have ev53 : fa.tmps[53]?.getD undef = .bool false := (hF.ev 22 53 (by kernel_rfl)).trans q22
          refine wpOp_val rfl (wanted_none rfl) ?_ (fK (.bool false) fW (hR_ fW) (by rw [hT]; exact rfl) (hP_ 23 _ fy fW rfl hJ))
          clear fK hE hF hJ hN
          go_simp
        refine stepsAll_cons (k := 24) ?_ ?_
        · intro fa fx fW fy hF hN hJ hE K fK
          have hJ : G (fy 2) (fy 3) (fy 5) (fy 7) (fy 15) (fy 17) (fy 24) (fy 26) (fy 27) (fy 31) fW := hJ
          have q17 : fx 17 = .int .i64 s1.done := by have q := (hE ⟨17, .chain⟩ (by simp) rfl).2; rw [hT] at q; exact q
          have y17 : fy 17 = some (fx 17) := (hE ⟨17, .chain⟩ (by simp) rfl).1
          have q23 : fx 23 = .bool false := by have q := (hE ⟨23, .data⟩ (by simp) rfl).2; rw [hT] at q; exact q
          have ev54 : fa.tmps[54]?.getD undef = .bool false := (hF.ev 23 54 (by kernel_rfl)).trans q23
          rw [hG, y17] at hJ
          have hs := hJ.resolve_left (by simp)
          obtain ⟨ha, hc, hs⟩ := hs
          refine wpOp_val rfl (wanted_none rfl) (v := .bool false) (by clear fK hE hF hN ha hc hs; go_simp) (fK _ _ (hR_ fW) (by rw [hT]; exact rfl) ?_)
          show G (fy 2) (fy 3) (fy 5) (fy 7) (fy 15) (fy 17) (some _) (fy 26) (fy 27) (fy 31) fW
          rw [hG]
          exact .inr ⟨ha, (by first | exact hc | (rw [y3]; rfl)), hs⟩
        refine stepsAll_cons (k := 25) ?_ ?_
        · intro fa fx fW fy hF hN hJ hE K fK
          have hJ : G (fy 2) (fy 3) (fy 5) (fy 7) (fy 15) (fy 17) (fy 24) (fy 26) (fy 27) (fy 31) fW := hJ
          have q24 : fx 24 = .bool false := by have q := (hE ⟨24, .guard⟩ (by simp) rfl).2; rw [hT] at q; exact q
          have y24 : fy 24 = some (fx 24) := (hE ⟨24, .guard⟩ (by simp) rfl).1
          have ev5 : fa.tmps[5]?.getD undef = .pointer (some ⟨b1, 0, none⟩) := hF.eo 5 (by kernel_rfl)
          refine wpOp_val rfl (wanted_not rfl (hF.yes 24 55 (by kernel_rfl) false q24)) ?_ (fK (.pointer (some ⟨b1, 0, none⟩)) fW (hR_ fW) (by rw [hT]; exact rfl) (hP_ 25 _ fy fW rfl hJ))
          clear fK hE hF hJ hN
          go_simp
        refine stepsAll_cons (k := 26) ?_ ?_
        · intro fa fx fW fy hF hN hJ hE K fK
          have hJ : G (fy 2) (fy 3) (fy 5) (fy 7) (fy 15) (fy 17) (fy 24) (fy 26) (fy 27) (fy 31) fW := hJ
          have q24 : fx 24 = .bool false := by have q := (hE ⟨24, .chain⟩ (by simp) rfl).2; rw [hT] at q; exact q
          have y24 : fy 24 = some (fx 24) := (hE ⟨24, .chain⟩ (by simp) rfl).1
          have q25 : fx 25 = .pointer (some ⟨b1, 0, none⟩) := by have q := (hE ⟨25, .data⟩ (by simp) rfl).2; rw [hT] at q; exact q
          have ev56 : fa.tmps[56]?.getD undef = .pointer (some ⟨b1, 0, none⟩) := (hF.ev 25 56 (by kernel_rfl)).trans q25
          refine wpOp_call rfl (wanted_not rfl (hF.yes 24 55 (by kernel_rfl) false q24)) (by go_simp; exact ⟨rfl, rfl⟩) ?_
          rw [hG, y24] at hJ
          have hs := hJ.resolve_left (by simp)
          obtain ⟨ha, hc, hs⟩ := hs
          obtain ⟨v1, v2, d1, d2, _⟩ := hs.tw
          refine (dall b1 base most _ _ _ v1 fW d1 hroom hlen).mono ?_
          rintro e' w' ⟨A9, n9, c9, rfl, hb9, hr9⟩
          refine ⟨_, rfl, fK (.slice A9 n9 c9) w' (by rw [hS_]; exact Chg.of_below hb9) (by rw [hT]; exact trivial) ?_⟩
          show G (fy 2) (fy 3) (fy 5) (fy 7) (fy 15) (fy 17) (fy 24) (some _) (fy 27) (fy 31) w'
          rw [hG]
          exact .inr ⟨ha, hc, (hs.below hb9).p_ hr9⟩
        refine stepsAll_cons (k := 27) ?_ ?_
        · intro fa fx fW fy hF hN hJ hE K fK
          have hJ : G (fy 2) (fy 3) (fy 5) (fy 7) (fy 15) (fy 17) (fy 24) (fy 26) (fy 27) (fy 31) fW := hJ
          have q24 : fx 24 = .bool false := by have q := (hE ⟨24, .guard⟩ (by simp) rfl).2; rw [hT] at q; exact q
          have y24 : fy 24 = some (fx 24) := (hE ⟨24, .guard⟩ (by simp) rfl).1
          have q26 : (FactS.any : FactS S_).p (fx 26) fW := by have q := (hE ⟨26, .data⟩ (by simp) rfl).2; rw [hT] at q; exact q
          have y26 : fy 26 = some (fx 26) := (hE ⟨26, .data⟩ (by simp) rfl).1
          have ev57 : fa.tmps[57]?.getD undef = fx 26 := hF.ev 26 57 (by kernel_rfl)
          refine wpOp_call rfl (wanted_not rfl (hF.yes 24 55 (by kernel_rfl) false q24)) (by go_simp; exact ⟨rfl, rfl⟩) ?_
          rw [hG, y26] at hJ
          have hs := hJ.resolve_left (by simp)
          obtain ⟨ha, hc, hs⟩ := hs
          obtain ⟨A1, n1, c1, e1, hr1⟩ := hs.p _ rfl
          rw [e1]
          refine (plainRq A1 n1 c1 s1.l fW hr1 (by have := hr1.len; rw [rqs_length] at this; omega)).mono ?_
          rintro e' w' ⟨A9, n9, c9, rfl, hb9, hr9⟩
          refine ⟨_, rfl, fK (.slice A9 n9 c9) w' (by rw [hS_]; exact Chg.of_below hb9) (by rw [hT]; exact trivial) ?_⟩
          show G (fy 2) (fy 3) (fy 5) (fy 7) (fy 15) (fy 17) (fy 24) (fy 26) (some _) (fy 31) w'
          rw [hG]
          rw [y26]
          exact .inr ⟨ha, hc, (hs.below hb9).e_ hr9⟩
        refine stepsAll_cons (k := 28) ?_ ?_
        · intro fa fx fW fy hF hN hJ hE K fK
          have hJ : G (fy 2) (fy 3) (fy 5) (fy 7) (fy 15) (fy 17) (fy 24) (fy 26) (fy 27) (fy 31) fW := hJ
          have q24 : fx 24 = .bool false := by have q := (hE ⟨24, .guard⟩ (by simp) rfl).2; rw [hT] at q; exact q
          have y24 : fy 24 = some (fx 24) := (hE ⟨24, .guard⟩ (by simp) rfl).1
          have ev6 : fa.tmps[6]?.getD undef = .pointer (some ⟨b2, 0, none⟩) := hF.eo 6 (by kernel_rfl)
          refine wpOp_val rfl (wanted_not rfl (hF.yes 24 55 (by kernel_rfl) false q24)) ?_ (fK (.pointer (some ⟨b2, 0, none⟩)) fW (hR_ fW) (by rw [hT]; exact rfl) (hP_ 28 _ fy fW rfl hJ))
          clear fK hE hF hJ hN
          go_simp
        refine stepsAll_cons (k := 29) ?_ ?_
        · intro fa fx fW fy hF hN hJ hE K fK
          have hJ : G (fy 2) (fy 3) (fy 5) (fy 7) (fy 15) (fy 17) (fy 24) (fy 26) (fy 27) (fy 31) fW := hJ
          have q24 : fx 24 = .bool false := by have q := (hE ⟨24, .guard⟩ (by simp) rfl).2; rw [hT] at q; exact q
          have y24 : fy 24 = some (fx 24) := (hE ⟨24, .guard⟩ (by simp) rfl).1
          have q28 : fx 28 = .pointer (some ⟨b2, 0, none⟩) := by have q := (hE ⟨28, .data⟩ (by simp) rfl).2; rw [hT] at q; exact q
          have ev59 : fa.tmps[59]?.getD undef = .pointer (some ⟨b2, 0, none⟩) := (hF.ev 28 59 (by kernel_rfl)).trans q28
          refine wpOp_val rfl (wanted_not rfl (hF.yes 24 55 (by kernel_rfl) false q24)) ?_ (fK (.pointer (some ⟨b2, 0, none⟩)) fW (hR_ fW) (by rw [hT]; exact rfl) (hP_ 29 _ fy fW rfl hJ))
          clear fK hE hF hJ hN
          go_simp
        refine stepsAll_cons (k := 30) ?_ ?_
        · intro fa fx fW fy hF hN hJ hE K fK
          have hJ : G (fy 2) (fy 3) (fy 5) (fy 7) (fy 15) (fy 17) (fy 24) (fy 26) (fy 27) (fy 31) fW := hJ
          have q24 : fx 24 = .bool false := by have q := (hE ⟨24, .guard⟩ (by simp) rfl).2; rw [hT] at q; exact q
          have y24 : fy 24 = some (fx 24) := (hE ⟨24, .guard⟩ (by simp) rfl).1
          have q29 : fx 29 = .pointer (some ⟨b2, 0, none⟩) := by have q := (hE ⟨29, .data⟩ (by simp) rfl).2; rw [hT] at q; exact q
          have ev60 : fa.tmps[60]?.getD undef = .pointer (some ⟨b2, 0, none⟩) := (hF.ev 29 60 (by kernel_rfl)).trans q29
          refine wpOp_val rfl (wanted_not rfl (hF.yes 24 55 (by kernel_rfl) false q24)) ?_ (fK (.pointer (some ⟨b2, 1, none⟩)) fW (hR_ fW) (by rw [hT]; exact rfl) (hP_ 30 _ fy fW rfl hJ))
          clear fK hE hF hJ hN
          go_simp
        refine stepsAll_cons (k := 31) ?_ ?_
        · intro fa fx fW fy hF hN hJ hE K fK
          have hJ : G (fy 2) (fy 3) (fy 5) (fy 7) (fy 15) (fy 17) (fy 24) (fy 26) (fy 27) (fy 31) fW := hJ
          have q24 : fx 24 = .bool false := by have q := (hE ⟨24, .guard⟩ (by simp) rfl).2; rw [hT] at q; exact q
          have y24 : fy 24 = some (fx 24) := (hE ⟨24, .guard⟩ (by simp) rfl).1
          have q30 : fx 30 = .pointer (some ⟨b2, 1, none⟩) := by have q := (hE ⟨30, .data⟩ (by simp) rfl).2; rw [hT] at q; exact q
          have ev61 : fa.tmps[61]?.getD undef = .pointer (some ⟨b2, 1, none⟩) := (hF.ev 30 61 (by kernel_rfl)).trans q30
          rw [hG, y24] at hJ
          have hs := hJ.resolve_left (by simp)
          obtain ⟨ha, hc, hs⟩ := hs
          obtain ⟨v1, v2, d1, d2, _⟩ := hs.tw
          have yr := d2.row.cell
          obtain ⟨A, nn, c, hu, hn9, hr9⟩ := own_open d2.own
          rw [hu] at yr
          refine wpOp_val rfl (wanted_not rfl (hF.yes 24 55 (by kernel_rfl) false q24)) (v := .slice A nn c) (by clear fK hE hF hN hs; go_simp) (fK _ _ (hR_ fW) (by rw [hT]; exact trivial) ?_)
          show G (fy 2) (fy 3) (fy 5) (fy 7) (fy 15) (fy 17) (fy 24) (fy 26) (fy 27) (some _) fW
          rw [hG]
          exact .inr ⟨ha, hc, hs.f_ hr9⟩
        refine stepsAll_cons (k := 32) ?_ ?_
        · intro fa fx fW fy hF hN hJ hE K fK
          have hJ : G (fy 2) (fy 3) (fy 5) (fy 7) (fy 15) (fy 17) (fy 24) (fy 26) (fy 27) (fy 31) fW := hJ
          have q24 : fx 24 = .bool false := by have q := (hE ⟨24, .guard⟩ (by simp) rfl).2; rw [hT] at q; exact q
          have y24 : fy 24 = some (fx 24) := (hE ⟨24, .guard⟩ (by simp) rfl).1
          have q27 : (FactS.any : FactS S_).p (fx 27) fW := by have q := (hE ⟨27, .data⟩ (by simp) rfl).2; rw [hT] at q; exact q
          have y27 : fy 27 = some (fx 27) := (hE ⟨27, .data⟩ (by simp) rfl).1
          have q31 : (FactS.any : FactS S_).p (fx 31) fW := by have q := (hE ⟨31, .data⟩ (by simp) rfl).2; rw [hT] at q; exact q
          have y31 : fy 31 = some (fx 31) := (hE ⟨31, .data⟩ (by simp) rfl).1
          have ev58 : fa.tmps[58]?.getD undef = fx 27 := hF.ev 27 58 (by kernel_rfl)
          have ev62 : fa.tmps[62]?.getD undef = fx 31 := hF.ev 31 62 (by kernel_rfl)
          refine wpOp_call rfl (wanted_not rfl (hF.yes 24 55 (by kernel_rfl) false q24)) (by go_simp; exact ⟨rfl, rfl⟩) ?_
          have hJ1 := hJ
          rw [hG, y27, y31] at hJ1
          have hs := hJ1.resolve_left (by simp)
          obtain ⟨ha, hc, hs⟩ := hs
          obtain ⟨A1, n1, c1, e1, hr1⟩ := hs.e _ rfl
          obtain ⟨A2, n2, c2, e2, hr2⟩ := hs.f _ rfl
          rw [e1, e2]
          refine (rsame A1 n1 c1 s1.l A2 n2 c2 fW hr1 hr2).mono ?_
          rintro e' w' ⟨rfl, hb9⟩
          refine ⟨_, rfl, fK (.bool true) w' (by rw [hS_]; exact Chg.of_below hb9) (by rw [hT]; exact rfl) (hP_ 32 _ fy w' rfl ?_)⟩
          show G (fy 2) (fy 3) (fy 5) (fy 7) (fy 15) (fy 17) (fy 24) (fy 26) (fy 27) (fy 31) w'
          rw [hG, y27, y31]
          exact .inr ⟨ha, hc, hs.below hb9⟩
        refine stepsAll_cons (k := 33) ?_ ?_
        · intro fa fx fW fy hF hN hJ hE K fK
          have hJ : G (fy 2) (fy 3) (fy 5) (fy 7) (fy 15) (fy 17) (fy 24) (fy 26) (fy 27) (fy 31) fW := hJ
          have q24 : fx 24 = .bool false := by have q := (hE ⟨24, .guard⟩ (by simp) rfl).2; rw [hT] at q; exact q
          have y24 : fy 24 = some (fx 24) := (hE ⟨24, .guard⟩ (by simp) rfl).1
          have q32 : fx 32 = .bool true := by have q := (hE ⟨32, .data⟩ (by simp) rfl).2; rw [hT] at q; exact q
          have ev63 : fa.tmps[63]?.getD undef = .bool true := (hF.ev 32 63 (by kernel_rfl)).trans q32
          refine wpOp_val rfl (wanted_not rfl (hF.yes 24 55 (by kernel_rfl) false q24)) ?_ (fK (.bool false) fW (hR_ fW) (by rw [hT]; exact rfl) (hP_ 33 _ fy fW rfl hJ))
          clear fK hE hF hJ hN
          go_simp
        refine stepsAll_cons (k := 34) ?_ ?_
        · intro fa fx fW fy hF hN hJ hE K fK
          have hJ : G (fy 2) (fy 3) (fy 5) (fy 7) (fy 15) (fy 17) (fy 24) (fy 26) (fy 27) (fy 31) fW := hJ
          have q24 : fx 24 = .bool false := by have q := (hE ⟨24, .data⟩ (by simp) rfl).2; rw [hT] at q; exact q
          have y24 : fy 24 = some (fx 24) := (hE ⟨24, .data⟩ (by simp) rfl).1
          have q33 : fx 33 = .bool false := by have q := (hE ⟨33, .data⟩ (by simp) rfl).2; rw [hT] at q; exact q
          have ev55 : fa.tmps[55]?.getD undef = .bool false := (hF.ev 24 55 (by kernel_rfl)).trans q24
          have ev64 : fa.tmps[64]?.getD undef = .bool false := (hF.ev 33 64 (by kernel_rfl)).trans q33
          refine wpOp_val rfl (wanted_none rfl) ?_ (fK (.bool false) fW (hR_ fW) (by rw [hT]; exact rfl) (hP_ 34 _ fy fW rfl hJ))
          clear fK hE hF hJ hN
          go_simp
        exact stepsAll_nil
      intro fa fx fW fy hF hJ0 hx
      have y2 : fy 2 = some (fx 2) := (hx 2 (by decide)).1
      have y3 : fy 3 = some (fx 3) := (hx 3 (by decide)).1
      have y5 : fy 5 = some (fx 5) := (hx 5 (by decide)).1
      have y7 : fy 7 = some (fx 7) := (hx 7 (by decide)).1
      have y15 : fy 15 = some (fx 15) := (hx 15 (by decide)).1
      have y17 : fy 17 = some (fx 17) := (hx 17 (by decide)).1
      have y24 : fy 24 = some (fx 24) := (hx 24 (by decide)).1
      have y26 : fy 26 = some (fx 26) := (hx 26 (by decide)).1
      have y27 : fy 27 = some (fx 27) := (hx 27 (by decide)).1
      have y31 : fy 31 = some (fx 31) := (hx 31 (by decide)).1
      have hJ : G (fy 2) (fy 3) (fy 5) (fy 7) (fy 15) (fy 17) (fy 24) (fy 26) (fy 27) (fy 31) fW := hJ0
      clear hJ0
      rw [y2, y3, y5, y7, y15, y17, y24, y26, y27, y31] at hJ
      have q34 : fx 34 = .bool false := by have q := (hx 34 (by decide)).2; rw [hT] at q; exact q
      have ev65 : fa.tmps[65]?.getD undef = .bool false := (hF.ev 34 65 (by kernel_rfl)).trans q34
      rw [hF.eq]
      clear hF hx hT T hP_ hR_ y2 y3 y5 y7 y15 y17 y24 y26 y27 y31
      simp only [putAll, Act.put, List.setIfInBounds_toArray, List.set_cons_zero, List.set_cons_succ, q34]
      rw [hG] at hJ
      obtain ⟨_, _, hs⟩ := hJ.resolve_left (by simp)
      go_wp2
      go_roundw
      case rel => exact ⟨k + 1, s1, by omega, by go_num, hs.tw, by simpa using hK1, hs.be⟩
      case measure => simp only [intOf]; omega
    · obtain rfl : k = n := by omega
      go_wp2_with (go_at_call 7; refine (lives11 _).mono ?_; rintro e w' ⟨rfl, hb9⟩)
      go_ret
      exact ⟨rfl, by rw [← hbase]; exact below_then hb hsz hb9⟩
end Go.Proofs.Ytdfncmhbbhmgfaa
