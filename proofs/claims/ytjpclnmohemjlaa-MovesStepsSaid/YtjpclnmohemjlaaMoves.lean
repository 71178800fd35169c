/- Package moves: Good, Count, right, Need. -/
import Derived.Test.YtjpclnmohemjlaaIdxInt
import Derived.Test.YtjpclnmohemjlaaInts03
import Derived.Test.YtjpclnmohemjlaaMovesPlain
import Derived.Test.YtjpclnmohemjlaaRegionJ
namespace Go.Proofs.Ytjpclnmohemjlaa
open Go.RowKit
theorem info_int : (Try.prog.info? 3).map (fun i => (i.zero, i.size, i.bytes)) = some (some (.int .i64 0), 1, 8) := by kernel_rfl
set_option maxHeartbeats 400000 in
theorem mgood1 (o n : Int) (p : Addr) (w : World) (hp : w.cell? p = some (.int .i64 n)) : Calls Try.prog 25 #[.int .i64 o, .pointer (some p)] w fun e w' => e = .returned (.bool (wrongO n o)) ∧ w = w' := by
  by_cases h1 : o < 0 <;> by_cases h2 : n < o
  all_goals
    go_enter Try.func25, Try.ntmps25
    go_wp2
    all_goals
      go_ret
      exact ⟨ret_bool (by simp [wrongO]; omega), rfl⟩
set_option maxHeartbeats 400000 in
theorem mgood (A : Option Addr) (m c : Nat) (os : List Int) (n : Int) (w : World) (hr : Rds w 1 A m c (nums .i64 os)) :
    Calls Try.prog 11 #[.slice A m c, .int .i64 n] w fun e w' => e = .returned (.bool (goodB os n)) ∧ Below w.heap.size w w' := by
  have eg : ∀ args w, (callFunc 25 args).run Try.prog w = .ok (.enter 25 args) w := Go.Proofs.enters_of Try.func25 (by kernel_rfl) rfl
  have hb : Below w.heap.size w (w.alloc (.cells #[.int .i64 n] 3)) := below_al (Below.refl _ _) _
  have HI := Lib.hid (containsInt 25 #[.pointer (some ⟨w.heap.size, 0, none⟩)] eg (wrongO n) A m c os _ (hr.below hb) (fun x _ => mgood1 x n _ _ (by go_simp)))
  have HN := Lib.hid (nums_inj_len hr)
  have hb1 : (goodB os n) = (decide (os.length ≤ 64) && decide (0 ≤ n) && decide (n ≤ 64) && !os.any (wrongO n)) := rfl
  rw [HN.out] at hb1
  have HB := Lib.hid hb1
  clear hb1
  generalize goodB os n = q at HB
  generalize os.any (wrongO n) = b at HI HB
  clear eg hr
  by_cases h1 : (m : Int) ≤ 64 <;> by_cases h2 : 0 ≤ n <;> by_cases h3 : n ≤ 64
  all_goals
    go_enter Try.func11, Try.ntmps11
    go_wp2_with (go_at_call 26; refine HI.out.mono ?_; rintro e w' ⟨rfl, rfl⟩)
    go_ret
    refine ⟨ret_bool ?_, hb⟩
    rw [HB.out]
    simp [h2, h3]
    try omega
theorem getD_nums {k : IntKind} {xs : List Int} {j : Nat} {x : Int} (h : xs[j]? = some x) : (nums k xs)[j]? = some (.int k x) := by simp [nums, h]
theorem nums_set (k : IntKind) (xs : List Int) (j : Nat) (x : Int) : (nums k xs).set j (.int k x) = nums k (xs.set j x) := by simp [nums, List.map_set]
theorem own_drop1 {w : World} {base g n cap : Nat} {e : TypeId} {xs ys : List Value} (h : w.ownsRow base e 1 (.slice (some ⟨g, 0, none⟩) (n + 1) (cap + 1)) (n + 1) xs) (hy : ys = xs.drop 1) : Rds w 1 (some ⟨g, 1, none⟩) n cap ys := by
  subst hy
  obtain ⟨_, hr⟩ := own_rds' h
  have h1 := hr.len
  have h2 := hr.le
  have h3 := hr.max
  refine ⟨by rw [List.length_drop]; omega, by omega, by omega, (fun e => by cases e), fun ad e j u hj => ?_⟩
  cases e
  rw [List.getElem?_drop] at hj
  have hadd : (⟨g, 1, none⟩ : Addr).add j = ⟨g, 1 + j, none⟩ := by unfold Addr.add; split <;> simp_all
  have hlt : 1 + j < xs.length := (List.getElem?_eq_some_iff.1 hj).1
  rw [hadd, h.cellAt (1 + j) (by omega)]
  exact hj
set_option maxHeartbeats 1000000 in
theorem mcount (A : Option Addr) (m c : Nat) (os : List Int) (n : Int) (w : World) (hr : Rds w 1 A m c (nums .i64 os)) :
    Calls Try.prog 14 #[.slice A m c, .int .i64 n] w fun e w' => (∃ B l d, e = .returned (.slice B l d) ∧ Rds w' 1 B l d (nums .i64 (countV os n)) ∧ ∀ ad, B = some ad → w.heap.size ≤ ad.block) ∧ Below w.heap.size w w' := by
  have HG := Lib.hid (mgood A m c os n w hr)
  cases hg : goodB os n with
  | false =>
    rw [hg] at HG
    have HV : Hid (countV os n = []) := by show _ = _; unfold countV; rw [hg]; rfl
    clear hg
    go_enter Try.func14, Try.ntmps14
    go_wp2_with (go_at_call 11; refine HG.out.mono ?_; rintro e w1 ⟨rfl, hb1⟩)
    go_ret
    refine ⟨⟨none, 0, 0, rfl, ?_, fun ad e => by cases e⟩, hb1⟩
    rw [HV.out]
    exact Rds.none_ _ _
  | true =>
    rw [hg] at HG
    obtain ⟨g1, g2, g3, g4⟩ := goodB_iff.1 hg
    obtain ⟨N, rfl⟩ : ∃ N : Nat, n = N := ⟨n.toNat, by omega⟩
    have HV : Hid (countV os N = cntL os N) := by show _ = _; unfold countV; rw [hg]; rfl
    have HN := Lib.hid (nums_inj_len hr)
    have hm : m ≤ 64 := by have := HN.out; omega
    have HE := Lib.hid g4
    clear hg g4 g1
    go_enter Try.func14, Try.ntmps14
    go_wp2_with (first | (go_at_call 11; refine HG.out.mono ?_; rintro e w1 ⟨rfl, hb1⟩) | (refine mkn (w0 := w) w.heap.size rfl _ _ 22 3 _ 1 8 rfl Try.underlying22 info_int .i64 .i64 _ _ (N + 1) (by rfl) (by rfl) (by go_num) (by go_num) (by omega) (by unfold maxLen; omega) hb1 hb1.size ?_; intro w2 ho2 hb2 hg2))
    have hz : w2.ownsRow w.heap.size 3 1 (.slice (some ⟨w1.heap.size, 0, none⟩) (N + 1) (N + 1)) (N + 1) (nums .i64 (hist (os.take 0) (N + 1))) := by
      have e : (madeCells (Value.int .i64 0).cells ((N + 1) * 1)).toList = nums .i64 (hist (os.take 0) (N + 1)) := by
        rw [Nat.mul_one, List.take_zero, hist_nil, show (Value.int .i64 0).cells = #[.int .i64 0] from rfl, toList_madeCells_one]
        simp [nums]
      rw [← e]
      exact ho2
    clear ho2 hg2
    have hlt1 := hb1.size
    generalize w1.heap.size = g at hz hlt1
    clear hb1
    go_loopw [17] (fun i wr => ∃ k : Nat, k ≤ m ∧ i = .int .i64 k ∧ Below w.heap.size w wr ∧ wr.ownsRow w.heap.size 3 1 (.slice (some ⟨g, 0, none⟩) (N + 1) (N + 1)) (N + 1) (nums .i64 (hist (os.take k) (N + 1)))) (fun i _ => m - (intOf i).toNat)
    case atStart => exact ⟨0, Nat.zero_le _, rfl, hb2, hz⟩
    case round =>
      obtain ⟨k, hk, rfl, hb, HO⟩ := hrel
      clear hz hb2
      by_cases hlt : k < m
      · have hkx : k < os.length := by rw [HN.out]; exact hlt
        obtain ⟨ad, rfl⟩ := hr.some_ (by omega)
        have hc1 := (hr.below hb).cell ad rfl k _ (nums_get .i64 os k hkx)
        obtain ⟨o, ho⟩ : ∃ o, o = os[k] := ⟨_, rfl⟩
        obtain ⟨e1, e2⟩ := HE.out os[k] (List.getElem_mem hkx)
        have hS := hist_snoc (os.take k) (N + 1) os[k] e1
        rw [← List.take_succ_eq_append_getElem hkx] at hS
        rw [← ho] at hc1 e1 e2 hS
        obtain ⟨j, rfl⟩ : ∃ j : Nat, o = j := ⟨o.toNat, by omega⟩
        have HS := Lib.hid hS
        clear hS ho
        have hj : j < N + 1 := by omega
        have hcnt : (os.take k).count (j : Int) ≤ 64 := Nat.le_trans List.count_le_length (by rw [List.length_take]; omega)
        have hc2 := HO.cellAt j (by omega)
        rw [getD_nums (hist_get _ _ _ hj)] at hc2
        have hf2 := HO.frozenAt j
        have hst := HO.stored j (.int .i64 (((os.take k).count (j : Int) : Nat) + 1 : Int))
        rw [nums_set] at hst
        simp only [Int.toNat_natCast] at HS
        have hst1 := hst.1
        have hbb : Below w.heap.size w (wr.setCell ⟨g, j, none⟩ (.int .i64 (((os.take k).count (j : Int) : Nat) + 1 : Int))) := hb.grown hst.2 hb.size (fun k hk => by cases hk; exact hlt1)
        rw [← HS.out] at hst1
        clear hst HS
        generalize (os.take k).count (j : Int) = t at hcnt hc2 hst1 hbb
        go_wp2
        go_roundw
        case rel => exact ⟨k + 1, by omega, by go_num, hbb, hst1⟩
        case measure => simp [intOf]; omega
      · obtain rfl : k = m := by omega
        have hall : os.take k = os := List.take_of_length_le (by rw [HN.out]; omega)
        rw [hall] at HO
        clear hall
        rcases Nat.eq_zero_or_pos N with h0 | h0
        · subst h0
          have hv : countV os ((0 : Nat) : Int) = cntL os 0 := HV.out
          go_wp2
          go_ret
          refine ⟨⟨_, _, _, rfl, ?_, fun ad e => by cases e; exact hlt1⟩, hb⟩
          rw [hv]
          exact ⟨rfl, Nat.le_refl _, Nat.zero_le _, (fun e => by cases e), fun ad e j u hj => by simp [cntL, nums] at hj⟩
        · go_wp2
          all_goals first
            | omega
            | skip
          go_ret
          refine ⟨⟨_, _, _, rfl, ?_, fun ad e => by cases e; exact hlt1⟩, hb⟩
          rw [HV.out, ← cntL_hist]
          exact own_drop1 HO (by simp [nums])
set_option maxHeartbeats 400000 in
theorem mright1 (t : Int) (w : World) : Calls Try.prog 31 #[.int .i64 t] w fun e w' => e = .returned (.bool (decide (t < 0))) ∧ w = w' := by
  by_cases h1 : t < 0
  all_goals
    go_enter Try.func31, Try.ntmps31
    go_wp2
    go_ret
    exact ⟨ret_bool (by simp [h1]), rfl⟩
set_option maxHeartbeats 400000 in
theorem mright (A : Option Addr) (m c : Nat) (os : List Int) (B : Option Addr) (n d : Nat) (ts : List Int) (w : World) (hr : Rds w 1 A m c (nums .i64 os)) (hr2 : Rds w 1 B n d (nums .i64 ts)) :
    Calls Try.prog 23 #[.slice A m c, .slice B n d] w fun e w' => e = .returned (.bool (rightB os ts)) ∧ Below w.heap.size w w' := by
  have eg : ∀ args w, (callFunc 31 args).run Try.prog w = .ok (.enter 31 args) w := Go.Proofs.enters_of Try.func31 (by kernel_rfl) rfl
  have HI := Lib.hid (fun W h => containsInt 31 #[] eg (fun t => decide (t < 0)) B n d ts W h (fun x _ => mright1 x W))
  have HG := Lib.hid (mgood A m c os n w hr)
  have hb1 : rightB os ts = (goodB os ts.length && !ts.any (fun t => decide (t < 0))) := rfl
  rw [nums_inj_len hr2] at hb1
  have HB := Lib.hid hb1
  clear hb1
  generalize rightB os ts = q at HB
  generalize ts.any _ = b at HI HB
  generalize goodB os n = g at HG HB
  cases g
  all_goals
    go_enter Try.func23, Try.ntmps23
    go_wp2_with (first | (go_at_call 11; refine HG.out.mono ?_; rintro e w1 ⟨rfl, hb1⟩) | (go_at_call 26; refine (HI.out _ (hr2.below hb1)).mono ?_; rintro e w' ⟨rfl, rfl⟩))
    go_ret
    refine ⟨ret_bool ?_, hb1⟩
    rw [HB.out]
    simp
theorem moreL_get {cs ts : List Int} {k : Nat} {c t : Int} (hc : cs[k]? = some c) (ht : ts[k]? = some t) : (moreL cs ts)[k]? = some (max (c - t) 0) := by
  simp [moreL, List.getElem?_zipWith, hc, ht]
theorem lackL_get {cs ts : List Int} {k : Nat} {c t : Int} (hc : cs[k]? = some c) (ht : ts[k]? = some t) : (lackL cs ts)[k]? = some (max (t - c) 0) := by
  simp [lackL, List.getElem?_zipWith, hc, ht]
/-- What a call of Need leaves. -/
def Needs (w : World) (e : TypeId) (os ts : List Int) (v u : Value) (w' : World) : Prop :=
  w'.ownsRow w.heap.size e 1 v (needV os ts).1.length (nums .i64 (needV os ts).1) ∧ w'.ownsRow w.heap.size e 1 u (needV os ts).2.length (nums .i64 (needV os ts).2) ∧ (v.ownBlock = none ∨ v.ownBlock ≠ u.ownBlock)
theorem ret_two {a b c d : Value} (h : a = c) (h' : b = d) : Ending.returned (.tuple #[a, b]) = .returned (.tuple #[c, d]) := by rw [h, h']
set_option maxRecDepth 100000 in
set_option maxHeartbeats 4000000 in
theorem mneed (A : Option Addr) (m c : Nat) (os : List Int) (B : Option Addr) (n d : Nat) (ts : List Int) (w : World) (hr : Rds w 1 A m c (nums .i64 os)) (hr2 : Rds w 1 B n d (nums .i64 ts)) (hti : ∀ t ∈ ts, I64 t) :
    Calls Try.prog 9 #[.slice A m c, .slice B n d] w fun e w' => (∃ v u, e = .returned (.tuple #[v, u]) ∧ Needs w 3 os ts v u w') ∧ Below w.heap.size w w' := by
  have HG := Lib.hid (mright A m c os B n d ts w hr hr2)
  cases hg : rightB os ts with
  | false =>
    rw [hg] at HG
    have HV : Hid (needV os ts = ([], [])) := by show _ = _; unfold needV; rw [hg]; rfl
    clear hg
    go_enter Try.func9, Try.ntmps9
    go_wp2_with (go_at_call 23; refine HG.out.mono ?_; rintro e w1 ⟨rfl, hb1⟩)
    go_ret2
    refine ⟨⟨_, _, rfl, ?_⟩, hb1⟩
    unfold Needs
    rw [HV.out]
    exact ⟨World.ownsRow_nil _ _ _ _, World.ownsRow_nil _ _ _ _, .inl rfl⟩
  | true =>
    rw [hg] at HG
    obtain ⟨⟨g1, g2, g3, g4⟩, g5⟩ := rightB_iff.1 hg
    have HN := Lib.hid (nums_inj_len hr)
    have HM := Lib.hid (nums_inj_len hr2)
    rw [HM.out] at g3
    have hgo : goodB os n = true := by
      unfold rightB at hg
      rw [HM.out] at hg
      exact (Bool.and_eq_true _ _ ▸ hg).1
    have HC0 := fun W h => mcount A m c os n W h
    have hcv : countV os n = cntL os n := by unfold countV; rw [hgo]; rfl
    rw [hcv] at HC0
    have HC := Lib.hid HC0
    have HV : Hid (needV os ts = (moreL (cntL os n) ts, lackL (cntL os n) ts)) := by show _ = _; unfold needV; rw [hg, HM.out]; rfl
    have hn : n ≤ 64 := by omega
    have hm64 : m ≤ 64 := by rw [← HN.out]; exact g1
    have H5 := Lib.hid g5
    have hml : (moreL (cntL os n) ts).length = n := by simp [moreL, cntL_length, HM.out]
    have hll : (lackL (cntL os n) ts).length = n := by simp [lackL, cntL_length, HM.out]
    have HML := Lib.hid hml
    have HLL := Lib.hid hll
    clear g1 g2 g3 g4 g5 hg hgo HC0 hcv hml hll
    go_enter Try.func9, Try.ntmps9
    go_wp2_with (go_at_call 23; refine HG.out.mono ?_; rintro e w1 ⟨rfl, hb1⟩)
    obtain ⟨G, hG⟩ : ∃ G : Option Value → Option Value → Option Value → Option Value → World → Prop, ∀ a b c' d' W, G a b c' d' W = (Below w.heap.size w W ∧
        (∀ v, a = some v → ∃ g, v = .slice (some ⟨g, 0, none⟩) n n ∧ W.ownsRow w.heap.size 3 1 v n (nums .i64 (List.replicate n 0))) ∧
        (∀ v, b = some v → ∃ g, v = .slice (some ⟨g, 0, none⟩) n n ∧ W.ownsRow w.heap.size 3 1 v n (nums .i64 (List.replicate n 0))) ∧
        (∀ v u, a = some v → b = some u → v.ownBlock ≠ u.ownBlock) ∧ (∀ v, c' = some v → a = some v) ∧ (∀ v, d' = some v → b = some v)) := ⟨_, fun _ _ _ _ _ => rfl⟩
    obtain ⟨S_, hS_⟩ : ∃ S_ : World → World → Prop, S_ = (fun _ _ => True) := ⟨_, rfl⟩
    have hR_ : ∀ W, S_ W W := by intro W; rw [hS_]; exact trivial
    obtain ⟨T, hT⟩ : ∃ T : Nat → FactS S_, ∀ t_, T t_ = ([FactS.eq (.slice B n d), FactS.eq (.int .i64 n), FactS.any, FactS.eq (.slice B n d), FactS.eq (.int .i64 n), FactS.any, FactS.any, FactS.any] : List (FactS S_)).getD t_ FactS.any := ⟨_, fun _ => rfl⟩
    have hP_ : ∀ i_ v_ (y_ : Nat → Option Value) W_, ([2, 5, 6, 7].contains i_) = false → G (y_ 2) (y_ 5) (y_ 6) (y_ 7) W_ → G (updY y_ i_ v_ 2) (updY y_ i_ v_ 5) (updY y_ i_ v_ 6) (updY y_ i_ v_ 7) W_ := by
      intro i_ v_ y_ W_ hi_ h_
      simp only [List.contains_cons, List.contains_nil, Bool.or_false, Bool.or_eq_false_iff, beq_eq_false_iff_ne, ne_eq] at hi_
      obtain ⟨i2_, i5_, i6_, i7_⟩ := hi_
      rw [updY_ne y_ i_ v_ i2_, updY_ne y_ i_ v_ i5_, updY_ne y_ i_ v_ i6_, updY_ne y_ i_ v_ i7_]
      exact h_
    refine region_tabJ [(0, 14), (1, 15), (2, 16), (3, 17), (4, 18), (5, 19), (6, 6), (7, 7)] S_ T (fun y_ W_ => G (y_ 2) (y_ 5) (y_ 6) (y_ 7) W_) (by kernel_rfl) (by kernel_rfl) (by kernel_rfl) (by kernel_rfl) (by kernel_rfl) ?_ ?_ ?_
    · skip
      show G none none none none _
      rw [hG]
      exact ⟨below_dr hb1 _, (fun v h => by cases h), (fun v h => by cases h), (fun v u h => by cases h), (fun v h => by cases h), (fun v h => by cases h)⟩
    · skip
      refine stepsAll_cons (k := 0) ?_ ?_
      · intro fa fx fW fy hF hN hJ hE K fK
        have hJ : G (fy 2) (fy 5) (fy 6) (fy 7) fW := hJ
        have ev1 : fa.tmps[1]?.getD undef = .slice B n d := hF.eo 1 (by kernel_rfl)
        refine wpOp_val rfl (wanted_none rfl) ?_ (fK (.slice B n d) fW (hR_ fW) (by rw [hT]; exact rfl) (hP_ 0 _ fy fW rfl hJ))
        clear fK hE hF hJ hN
        go_simp
      refine stepsAll_cons (k := 1) ?_ ?_
      · intro fa fx fW fy hF hN hJ hE K fK
        have hJ : G (fy 2) (fy 5) (fy 6) (fy 7) fW := hJ
        have q0 : fx 0 = .slice B n d := by have q := (hE ⟨0, .data⟩ (by simp) rfl).2; rw [hT] at q; exact q
        have ev14 : fa.tmps[14]?.getD undef = .slice B n d := (hF.ev 0 14 (by kernel_rfl)).trans q0
        refine wpOp_val rfl (wanted_none rfl) ?_ (fK (.int .i64 n) fW (hR_ fW) (by rw [hT]; exact rfl) (hP_ 1 _ fy fW rfl hJ))
        clear fK hE hF hJ hN
        go_simp
      refine stepsAll_cons (k := 2) ?_ ?_
      · intro fa fx fW fy hF hN hJ hE K fK
        have hJ : G (fy 2) (fy 5) (fy 6) (fy 7) fW := hJ
        have q1 : fx 1 = .int .i64 n := by have q := (hE ⟨1, .data⟩ (by simp) rfl).2; rw [hT] at q; exact q
        have ev15 : fa.tmps[15]?.getD undef = .int .i64 n := (hF.ev 1 15 (by kernel_rfl)).trans q1
        rw [hG] at hJ
        obtain ⟨j1, j2, j3, j4, j5, j6⟩ := hJ
        refine wpOp_list rfl (mkn (w0 := w) w.heap.size rfl _ _ 22 3 _ 1 8 rfl Try.underlying22 info_int .i64 .i64 _ _ n (by go_simp) (by go_simp) rfl rfl (by omega) (by unfold maxLen; omega) j1 j1.size ?_)
        intro w2 ho2 hb2 hg2
        refine fK _ _ (by rw [hS_]; trivial) (by rw [hT]; exact trivial) ?_
        show G (some _) (fy 5) (fy 6) (fy 7) w2
        rw [hG]
        refine ⟨hb2, ?_, ?_, ?_, ?_, ?_⟩
        · rintro v h
          cases h
          refine ⟨_, rfl, ?_⟩
          rw [Nat.mul_one, show (Value.int .i64 0).cells = #[.int .i64 0] from rfl, toList_madeCells_one] at ho2
          simpa [nums] using ho2
        · rintro v h
          obtain ⟨g, rfl, h2⟩ := j3 v h
          exact ⟨g, rfl, h2.kept hg2 (.inr (by simp [Value.ownBlock]))⟩
        · rintro v u h h2
          cases h
          obtain ⟨g, rfl, h3⟩ := j3 u h2
          have := (h3.lt g rfl).2
          simp [Value.ownBlock]
          omega
        · intro v h
          have := j5 v h
          rw [hN] at this
          cases this
        · exact j6
      refine stepsAll_cons (k := 3) ?_ ?_
      · intro fa fx fW fy hF hN hJ hE K fK
        have hJ : G (fy 2) (fy 5) (fy 6) (fy 7) fW := hJ
        have ev1 : fa.tmps[1]?.getD undef = .slice B n d := hF.eo 1 (by kernel_rfl)
        refine wpOp_val rfl (wanted_none rfl) ?_ (fK (.slice B n d) fW (hR_ fW) (by rw [hT]; exact rfl) (hP_ 3 _ fy fW rfl hJ))
        clear fK hE hF hJ hN
        go_simp
      refine stepsAll_cons (k := 4) ?_ ?_
      · intro fa fx fW fy hF hN hJ hE K fK
        have hJ : G (fy 2) (fy 5) (fy 6) (fy 7) fW := hJ
        have q3 : fx 3 = .slice B n d := by have q := (hE ⟨3, .data⟩ (by simp) rfl).2; rw [hT] at q; exact q
        have ev17 : fa.tmps[17]?.getD undef = .slice B n d := (hF.ev 3 17 (by kernel_rfl)).trans q3
        refine wpOp_val rfl (wanted_none rfl) ?_ (fK (.int .i64 n) fW (hR_ fW) (by rw [hT]; exact rfl) (hP_ 4 _ fy fW rfl hJ))
        clear fK hE hF hJ hN
        go_simp
      refine stepsAll_cons (k := 5) ?_ ?_
      · intro fa fx fW fy hF hN hJ hE K fK
        have hJ : G (fy 2) (fy 5) (fy 6) (fy 7) fW := hJ
        have q4 : fx 4 = .int .i64 n := by have q := (hE ⟨4, .data⟩ (by simp) rfl).2; rw [hT] at q; exact q
        have ev18 : fa.tmps[18]?.getD undef = .int .i64 n := (hF.ev 4 18 (by kernel_rfl)).trans q4
        rw [hG] at hJ
        obtain ⟨j1, j2, j3, j4, j5, j6⟩ := hJ
        refine wpOp_list rfl (mkn (w0 := w) w.heap.size rfl _ _ 22 3 _ 1 8 rfl Try.underlying22 info_int .i64 .i64 _ _ n (by go_simp) (by go_simp) rfl rfl (by omega) (by unfold maxLen; omega) j1 j1.size ?_)
        intro w2 ho2 hb2 hg2
        refine fK _ _ (by rw [hS_]; trivial) (by rw [hT]; exact trivial) ?_
        show G (fy 2) (some _) (fy 6) (fy 7) w2
        rw [hG]
        refine ⟨hb2, ?_, ?_, ?_, ?_, ?_⟩
        · rintro v h
          obtain ⟨g, rfl, h2⟩ := j2 v h
          exact ⟨g, rfl, h2.kept hg2 (.inr (by simp [Value.ownBlock]))⟩
        · rintro v h
          cases h
          refine ⟨_, rfl, ?_⟩
          rw [Nat.mul_one, show (Value.int .i64 0).cells = #[.int .i64 0] from rfl, toList_madeCells_one] at ho2
          simpa [nums] using ho2
        · rintro v u h2 h
          cases h
          obtain ⟨g, rfl, h3⟩ := j2 v h2
          have := (h3.lt g rfl).2
          simp [Value.ownBlock]
          omega
        · exact j5
        · intro v h
          have := j6 v h
          rw [hN] at this
          cases this
      refine stepsAll_cons (k := 6) ?_ ?_
      · intro fa fx fW fy hF hN hJ hE K fK
        have hJ : G (fy 2) (fy 5) (fy 6) (fy 7) fW := hJ
        have q2 : (FactS.any : FactS S_).p (fx 2) fW := by have q := (hE ⟨2, .data⟩ (by simp) rfl).2; rw [hT] at q; exact q
        have y2 : fy 2 = some (fx 2) := (hE ⟨2, .data⟩ (by simp) rfl).1
        have ev16 : fa.tmps[16]?.getD undef = fx 2 := hF.ev 2 16 (by kernel_rfl)
        refine wpOp_val rfl (wanted_none rfl) (by clear fK hE hF hJ hN; go_simp) (fK (fx 2) fW (hR_ fW) (by rw [hT]; exact trivial) ?_)
        show G (fy 2) (fy 5) (some (fx 2)) (fy 7) fW
        rw [hG] at hJ ⊢
        exact ⟨hJ.1, hJ.2.1, hJ.2.2.1, hJ.2.2.2.1, (fun v h => by cases h; exact y2), hJ.2.2.2.2.2⟩
      refine stepsAll_cons (k := 7) ?_ ?_
      · intro fa fx fW fy hF hN hJ hE K fK
        have hJ : G (fy 2) (fy 5) (fy 6) (fy 7) fW := hJ
        have q5 : (FactS.any : FactS S_).p (fx 5) fW := by have q := (hE ⟨5, .data⟩ (by simp) rfl).2; rw [hT] at q; exact q
        have y5 : fy 5 = some (fx 5) := (hE ⟨5, .data⟩ (by simp) rfl).1
        have ev19 : fa.tmps[19]?.getD undef = fx 5 := hF.ev 5 19 (by kernel_rfl)
        refine wpOp_val rfl (wanted_none rfl) (by clear fK hE hF hJ hN; go_simp) (fK (fx 5) fW (hR_ fW) (by rw [hT]; exact trivial) ?_)
        show G (fy 2) (fy 5) (fy 6) (some (fx 5)) fW
        rw [hG] at hJ ⊢
        exact ⟨hJ.1, hJ.2.1, hJ.2.2.1, hJ.2.2.2.1, hJ.2.2.2.2.1, (fun v h => by cases h; exact y5)⟩
      exact stepsAll_nil
    intro fa fx fW fy hF hJ0 hx
    have y2 : fy 2 = some (fx 2) := (hx 2 (by decide)).1
    have y5 : fy 5 = some (fx 5) := (hx 5 (by decide)).1
    have y6 : fy 6 = some (fx 6) := (hx 6 (by decide)).1
    have y7 : fy 7 = some (fx 7) := (hx 7 (by decide)).1
    have hJ : G (fy 2) (fy 5) (fy 6) (fy 7) fW := hJ0
    clear hJ0
    rw [y2, y5, y6, y7] at hJ
    rw [hF.eq]
    clear hF hx hT T hP_ hR_ y2 y5 y6 y7
    simp only [putAll, Act.put, List.setIfInBounds_toArray, List.set_cons_zero, List.set_cons_succ, ]
    rw [hG] at hJ
    obtain ⟨hbJ, r2, r5, hne0, e60, e70⟩ := hJ
    have e6 := e60 _ rfl
    have e7 := e70 _ rfl
    clear e60 e70
    simp only [Option.some.injEq] at e6 e7
    obtain ⟨g, hv2, own2⟩ := r2 _ rfl
    obtain ⟨h, hv5, own5⟩ := r5 _ rfl
    have hne := hne0 _ _ rfl rfl
    clear hne0
    rw [← e6, ← e7]
    rw [hv2, hv5]
    rw [hv2] at own2 hne
    rw [hv5] at own5 hne
    generalize fx 0 = x0
    generalize fx 1 = x1
    generalize fx 3 = x3
    generalize fx 4 = x4
    clear hG G hS_ S_ r2 r5 hv2 hv5 e6 e7 fy fa fx
    have hgh : g ≠ h := fun e => hne (by rw [e])
    clear hne
    go_wp2_with (go_at_call 14; refine (HC.out _ (hr.below hbJ)).mono ?_; rintro e w2 ⟨⟨C, l, d2, rfl, hrC, hnew⟩, hb2⟩)
    have hl : l = n := by have := nums_inj_len hrC; rw [cntL_length] at this; omega
    subst hl
    have hbK := below_tr hbJ hb2
    have hgl := (own2.lt g rfl).2
    have hhl := (own5.lt h rfl).2
    have hgl1 := (own2.lt g rfl).1
    have hhl1 := (own5.lt h rfl).1
    have HNW : Hid (∀ ad, C = some ad → ad.block ≠ g ∧ ad.block ≠ h) := fun ad e => by have := hnew ad e; omega
    have o2 := own_below own2 hb2
    have o5 := own_below own5 hb2
    clear own2 own5 hb2 hbJ hnew hgl hhl
    have hz1 : List.replicate l (0 : Int) = upto 0 (moreL (cntL os l) ts) := by rw [upto_zero, HML.out]
    have hz2 : List.replicate l (0 : Int) = upto 0 (lackL (cntL os l) ts) := by rw [upto_zero, HLL.out]
    rw [hz1] at o2
    rw [hz2] at o5
    clear hz1 hz2
    go_loopw [25] (fun i wr => ∃ k : Nat, k ≤ l ∧ i = .int .i64 k ∧ Below w.heap.size w wr ∧ Rds wr 1 C l d2 (nums .i64 (cntL os l)) ∧ wr.ownsRow w.heap.size 3 1 (.slice (some ⟨g, 0, none⟩) l l) l (nums .i64 (upto k (moreL (cntL os l) ts))) ∧ wr.ownsRow w.heap.size 3 1 (.slice (some ⟨h, 0, none⟩) l l) l (nums .i64 (upto k (lackL (cntL os l) ts)))) (fun i _ => l - (intOf i).toNat)
    case atStart => exact ⟨0, Nat.zero_le _, rfl, hbK, hrC, o2, o5⟩
    case round =>
      obtain ⟨k, hk, rfl, hb, hrc, HO, HO2⟩ := hrel
      clear o2 o5 hrC hbK
      by_cases hlt : k < l
      · obtain ⟨bd, rfl⟩ := hr2.some_ (by omega)
        obtain ⟨cd, rfl⟩ := hrc.some_ (by omega)
        have hkt : k < ts.length := by rw [HM.out]; exact hlt
        have hcnt0 : (cntL os l)[k]? = some ((os.count ((k : Int) + 1) : Nat) : Int) := cntL_get _ _ _ hlt
        have hq : os.count ((k : Int) + 1) ≤ m := by rw [← HN.out]; exact List.count_le_length
        generalize os.count ((k : Int) + 1) = q at hcnt0 hq
        have ht0 : ts[k]? = some ts[k] := List.getElem?_eq_getElem hkt
        have ht5 := H5.out ts[k] (List.getElem_mem hkt)
        have ht6 := hti ts[k] (List.getElem_mem hkt)
        generalize ts[k] = t at ht0 ht5 ht6
        have HT0 := Lib.hid ht0
        have hmo := moreL_get hcnt0 ht0
        have hla := lackL_get hcnt0 ht0
        have HMO := Lib.hid hmo
        have HLA := Lib.hid hla
        have hc1 := hrc.cell cd rfl k _ (getD_nums hcnt0)
        have HC0 := Lib.hid hcnt0
        clear hmo hla ht0 hcnt0
        have hk1 : (k : Int) < (l : Int) := by omega
        have hgf := HO.frozenAt k
        obtain ⟨G, hG⟩ : ∃ G : Option Value → Option Value → World → Prop, ∀ a b W, G a b W = (Below w.heap.size w W ∧ Rds W 1 (some cd) l d2 (nums .i64 (cntL os l)) ∧
            W.ownsRow w.heap.size 3 1 (.slice (some ⟨g, 0, none⟩) l l) l (nums .i64 (upto (if a.isSome then k + 1 else k) (moreL (cntL os l) ts))) ∧
            W.ownsRow w.heap.size 3 1 (.slice (some ⟨h, 0, none⟩) l l) l (nums .i64 (upto (if b.isSome then k + 1 else k) (lackL (cntL os l) ts)))) := ⟨_, fun _ _ _ => rfl⟩
        go_wp2
        obtain ⟨S_, hS_⟩ : ∃ S_ : World → World → Prop, S_ = (fun _ _ => True) := ⟨_, rfl⟩
        have hR_ : ∀ W, S_ W W := by intro W; rw [hS_]; exact trivial
        obtain ⟨T, hT⟩ : ∃ T : Nat → FactS S_, ∀ t_, T t_ = ([FactS.eq (.slice (some ⟨g, 0, none⟩) l l), FactS.eq (.int .i64 k), FactS.eq (.slice (some ⟨h, 0, none⟩) l l), FactS.eq (.int .i64 k), FactS.eq (.int .i64 q), FactS.eq (.slice (some bd) l d), FactS.eq (.int .i64 k), FactS.eq (.pointer (some (bd.add k))), FactS.eq (.int .i64 t), FactS.eq (.int .i64 (q - t)), FactS.eq (.int .i64 (max (q - t) 0)), FactS.eq (.slice (some bd) l d), FactS.eq (.int .i64 k), FactS.eq (.pointer (some (bd.add k))), FactS.eq (.int .i64 t), FactS.eq (.int .i64 q), FactS.eq (.int .i64 (t - q)), FactS.eq (.int .i64 (max (t - q) 0)), FactS.eq (.pointer (some ⟨g, k, none⟩)), FactS.eq (undef), FactS.eq (.pointer (some ⟨h, k, none⟩)), FactS.eq (undef)] : List (FactS S_)).getD t_ FactS.any := ⟨_, fun _ => rfl⟩
        have hP_ : ∀ i_ v_ (y_ : Nat → Option Value) W_, ([19, 21].contains i_) = false → G (y_ 19) (y_ 21) W_ → G (updY y_ i_ v_ 19) (updY y_ i_ v_ 21) W_ := by
          intro i_ v_ y_ W_ hi_ h_
          simp only [List.contains_cons, List.contains_nil, Bool.or_false, Bool.or_eq_false_iff, beq_eq_false_iff_ne, ne_eq] at hi_
          obtain ⟨i19_, i21_⟩ := hi_
          rw [updY_ne y_ i_ v_ i19_, updY_ne y_ i_ v_ i21_]
          exact h_
        refine region_tabJ [(0, 30), (1, 31), (2, 32), (3, 33), (4, 34), (5, 35), (6, 36), (7, 37), (8, 38), (9, 39), (10, 40), (11, 41), (12, 42), (13, 43), (14, 44), (15, 45), (16, 46), (17, 47), (18, 48), (20, 49)] S_ T (fun y_ W_ => G (y_ 19) (y_ 21) W_) (by kernel_rfl) (by kernel_rfl) (by kernel_rfl) (by kernel_rfl) (by kernel_rfl) ?_ ?_ ?_
        · skip
          show G none none _
          rw [hG]
          exact ⟨below_dr hb _, hrc.below (below_dr (Below.refl _ _) 1), own_below HO (below_dr (Below.refl _ _) 1), own_below HO2 (below_dr (Below.refl _ _) 1)⟩
        · skip
          refine stepsAll_cons (k := 0) ?_ ?_
          · intro fa fx fW fy hF hN hJ hE K fK
            have hJ : G (fy 19) (fy 21) fW := hJ
            have ev6 : fa.tmps[6]?.getD undef = .slice (some ⟨g, 0, none⟩) l l := hF.eo 6 (by kernel_rfl)
            refine wpOp_val rfl (wanted_none rfl) ?_ (fK (.slice (some ⟨g, 0, none⟩) l l) fW (hR_ fW) (by rw [hT]; exact rfl) (hP_ 0 _ fy fW rfl hJ))
            clear fK hE hF hJ hN
            go_simp
          refine stepsAll_cons (k := 1) ?_ ?_
          · intro fa fx fW fy hF hN hJ hE K fK
            have hJ : G (fy 19) (fy 21) fW := hJ
            have ev8 : fa.tmps[8]?.getD undef = .int .i64 k := hF.eo 8 (by kernel_rfl)
            refine wpOp_val rfl (wanted_none rfl) ?_ (fK (.int .i64 k) fW (hR_ fW) (by rw [hT]; exact rfl) (hP_ 1 _ fy fW rfl hJ))
            clear fK hE hF hJ hN
            go_simp
          refine stepsAll_cons (k := 2) ?_ ?_
          · intro fa fx fW fy hF hN hJ hE K fK
            have hJ : G (fy 19) (fy 21) fW := hJ
            have ev7 : fa.tmps[7]?.getD undef = .slice (some ⟨h, 0, none⟩) l l := hF.eo 7 (by kernel_rfl)
            refine wpOp_val rfl (wanted_none rfl) ?_ (fK (.slice (some ⟨h, 0, none⟩) l l) fW (hR_ fW) (by rw [hT]; exact rfl) (hP_ 2 _ fy fW rfl hJ))
            clear fK hE hF hJ hN
            go_simp
          refine stepsAll_cons (k := 3) ?_ ?_
          · intro fa fx fW fy hF hN hJ hE K fK
            have hJ : G (fy 19) (fy 21) fW := hJ
            have ev8 : fa.tmps[8]?.getD undef = .int .i64 k := hF.eo 8 (by kernel_rfl)
            refine wpOp_val rfl (wanted_none rfl) ?_ (fK (.int .i64 k) fW (hR_ fW) (by rw [hT]; exact rfl) (hP_ 3 _ fy fW rfl hJ))
            clear fK hE hF hJ hN
            go_simp
          refine stepsAll_cons (k := 4) ?_ ?_
          · intro fa fx fW fy hF hN hJ hE K fK
            have hJ : G (fy 19) (fy 21) fW := hJ
            have ev9 : fa.tmps[9]?.getD undef = .int .i64 q := hF.eo 9 (by kernel_rfl)
            refine wpOp_val rfl (wanted_none rfl) ?_ (fK (.int .i64 q) fW (hR_ fW) (by rw [hT]; exact rfl) (hP_ 4 _ fy fW rfl hJ))
            clear fK hE hF hJ hN
            go_simp
          refine stepsAll_cons (k := 5) ?_ ?_
          · intro fa fx fW fy hF hN hJ hE K fK
            have hJ : G (fy 19) (fy 21) fW := hJ
            have ev1 : fa.tmps[1]?.getD undef = .slice (some bd) l d := hF.eo 1 (by kernel_rfl)
            refine wpOp_val rfl (wanted_none rfl) ?_ (fK (.slice (some bd) l d) fW (hR_ fW) (by rw [hT]; exact rfl) (hP_ 5 _ fy fW rfl hJ))
            clear fK hE hF hJ hN
            go_simp
          refine stepsAll_cons (k := 6) ?_ ?_
          · intro fa fx fW fy hF hN hJ hE K fK
            have hJ : G (fy 19) (fy 21) fW := hJ
            have ev8 : fa.tmps[8]?.getD undef = .int .i64 k := hF.eo 8 (by kernel_rfl)
            refine wpOp_val rfl (wanted_none rfl) ?_ (fK (.int .i64 k) fW (hR_ fW) (by rw [hT]; exact rfl) (hP_ 6 _ fy fW rfl hJ))
            clear fK hE hF hJ hN
            go_simp
          refine stepsAll_cons (k := 7) ?_ ?_
          · intro fa fx fW fy hF hN hJ hE K fK
            have hJ : G (fy 19) (fy 21) fW := hJ
            have q5 : fx 5 = .slice (some bd) l d := by have q := (hE ⟨5, .data⟩ (by simp) rfl).2; rw [hT] at q; exact q
            have q6 : fx 6 = .int .i64 k := by have q := (hE ⟨6, .data⟩ (by simp) rfl).2; rw [hT] at q; exact q
            have ev35 : fa.tmps[35]?.getD undef = .slice (some bd) l d := (hF.ev 5 35 (by kernel_rfl)).trans q5
            have ev36 : fa.tmps[36]?.getD undef = .int .i64 k := (hF.ev 6 36 (by kernel_rfl)).trans q6
            refine wpOp_val rfl (wanted_none rfl) ?_ (fK (.pointer (some (bd.add k))) fW (hR_ fW) (by rw [hT]; exact rfl) (hP_ 7 _ fy fW rfl hJ))
            clear fK hE hF hJ hN
            go_simp
          refine stepsAll_cons (k := 8) ?_ ?_
          · intro fa fx fW fy hF hN hJ hE K fK
            have hJ : G (fy 19) (fy 21) fW := hJ
            have q7 : fx 7 = .pointer (some (bd.add k)) := by have q := (hE ⟨7, .data⟩ (by simp) rfl).2; rw [hT] at q; exact q
            have ev37 : fa.tmps[37]?.getD undef = .pointer (some (bd.add k)) := (hF.ev 7 37 (by kernel_rfl)).trans q7
            have hJ1 := hJ
            rw [hG] at hJ1
            have hc := (hr2.below hJ1.1).cell bd rfl k _ (getD_nums HT0.out)
            refine wpOp_val rfl (wanted_none rfl) ?_ (fK (.int .i64 t) fW (hR_ fW) (by rw [hT]; exact rfl) (hP_ 8 _ fy fW rfl hJ))
            clear fK hE hF hJ hN
            go_simp
          refine stepsAll_cons (k := 9) ?_ ?_
          · intro fa fx fW fy hF hN hJ hE K fK
            have hJ : G (fy 19) (fy 21) fW := hJ
            have q4 : fx 4 = .int .i64 q := by have q := (hE ⟨4, .data⟩ (by simp) rfl).2; rw [hT] at q; exact q
            have q8 : fx 8 = .int .i64 t := by have q := (hE ⟨8, .data⟩ (by simp) rfl).2; rw [hT] at q; exact q
            have ev34 : fa.tmps[34]?.getD undef = .int .i64 q := (hF.ev 4 34 (by kernel_rfl)).trans q4
            have ev38 : fa.tmps[38]?.getD undef = .int .i64 t := (hF.ev 8 38 (by kernel_rfl)).trans q8
            refine wpOp_val rfl (wanted_none rfl) ?_ (fK (.int .i64 (q - t)) fW (hR_ fW) (by rw [hT]; exact rfl) (hP_ 9 _ fy fW rfl hJ))
            clear fK hE hF hJ hN
            go_simp
            exact IntWalk.i64_in _ (by unfold I64 at ht6; omega)
          refine stepsAll_cons (k := 10) ?_ ?_
          · intro fa fx fW fy hF hN hJ hE K fK
            have hJ : G (fy 19) (fy 21) fW := hJ
            have q9 : fx 9 = .int .i64 (q - t) := by have q := (hE ⟨9, .data⟩ (by simp) rfl).2; rw [hT] at q; exact q
            have ev39 : fa.tmps[39]?.getD undef = .int .i64 (q - t) := (hF.ev 9 39 (by kernel_rfl)).trans q9
            refine wpOp_val rfl (wanted_none rfl) ?_ (fK (.int .i64 (max (q - t) 0)) fW (hR_ fW) (by rw [hT]; exact rfl) (hP_ 10 _ fy fW rfl hJ))
            clear fK hE hF hJ hN
            go_simp
            split <;> omega
          refine stepsAll_cons (k := 11) ?_ ?_
          · intro fa fx fW fy hF hN hJ hE K fK
            have hJ : G (fy 19) (fy 21) fW := hJ
            have ev1 : fa.tmps[1]?.getD undef = .slice (some bd) l d := hF.eo 1 (by kernel_rfl)
            refine wpOp_val rfl (wanted_none rfl) ?_ (fK (.slice (some bd) l d) fW (hR_ fW) (by rw [hT]; exact rfl) (hP_ 11 _ fy fW rfl hJ))
            clear fK hE hF hJ hN
            go_simp
          refine stepsAll_cons (k := 12) ?_ ?_
          · intro fa fx fW fy hF hN hJ hE K fK
            have hJ : G (fy 19) (fy 21) fW := hJ
            have ev8 : fa.tmps[8]?.getD undef = .int .i64 k := hF.eo 8 (by kernel_rfl)
            refine wpOp_val rfl (wanted_none rfl) ?_ (fK (.int .i64 k) fW (hR_ fW) (by rw [hT]; exact rfl) (hP_ 12 _ fy fW rfl hJ))
            clear fK hE hF hJ hN
            go_simp
          refine stepsAll_cons (k := 13) ?_ ?_
          · intro fa fx fW fy hF hN hJ hE K fK
            have hJ : G (fy 19) (fy 21) fW := hJ
            have q11 : fx 11 = .slice (some bd) l d := by have q := (hE ⟨11, .data⟩ (by simp) rfl).2; rw [hT] at q; exact q
            have q12 : fx 12 = .int .i64 k := by have q := (hE ⟨12, .data⟩ (by simp) rfl).2; rw [hT] at q; exact q
            have ev41 : fa.tmps[41]?.getD undef = .slice (some bd) l d := (hF.ev 11 41 (by kernel_rfl)).trans q11
            have ev42 : fa.tmps[42]?.getD undef = .int .i64 k := (hF.ev 12 42 (by kernel_rfl)).trans q12
            refine wpOp_val rfl (wanted_none rfl) ?_ (fK (.pointer (some (bd.add k))) fW (hR_ fW) (by rw [hT]; exact rfl) (hP_ 13 _ fy fW rfl hJ))
            clear fK hE hF hJ hN
            go_simp
          refine stepsAll_cons (k := 14) ?_ ?_
          · intro fa fx fW fy hF hN hJ hE K fK
            have hJ : G (fy 19) (fy 21) fW := hJ
            have q13 : fx 13 = .pointer (some (bd.add k)) := by have q := (hE ⟨13, .data⟩ (by simp) rfl).2; rw [hT] at q; exact q
            have ev43 : fa.tmps[43]?.getD undef = .pointer (some (bd.add k)) := (hF.ev 13 43 (by kernel_rfl)).trans q13
            have hJ1 := hJ
            rw [hG] at hJ1
            have hc := (hr2.below hJ1.1).cell bd rfl k _ (getD_nums HT0.out)
            refine wpOp_val rfl (wanted_none rfl) ?_ (fK (.int .i64 t) fW (hR_ fW) (by rw [hT]; exact rfl) (hP_ 14 _ fy fW rfl hJ))
            clear fK hE hF hJ hN
            go_simp
          refine stepsAll_cons (k := 15) ?_ ?_
          · intro fa fx fW fy hF hN hJ hE K fK
            have hJ : G (fy 19) (fy 21) fW := hJ
            have ev9 : fa.tmps[9]?.getD undef = .int .i64 q := hF.eo 9 (by kernel_rfl)
            refine wpOp_val rfl (wanted_none rfl) ?_ (fK (.int .i64 q) fW (hR_ fW) (by rw [hT]; exact rfl) (hP_ 15 _ fy fW rfl hJ))
            clear fK hE hF hJ hN
            go_simp
          refine stepsAll_cons (k := 16) ?_ ?_
          · intro fa fx fW fy hF hN hJ hE K fK
            have hJ : G (fy 19) (fy 21) fW := hJ
            have q14 : fx 14 = .int .i64 t := by have q := (hE ⟨14, .data⟩ (by simp) rfl).2; rw [hT] at q; exact q
            have q15 : fx 15 = .int .i64 q := by have q := (hE ⟨15, .data⟩ (by simp) rfl).2; rw [hT] at q; exact q
            have ev44 : fa.tmps[44]?.getD undef = .int .i64 t := (hF.ev 14 44 (by kernel_rfl)).trans q14
            have ev45 : fa.tmps[45]?.getD undef = .int .i64 q := (hF.ev 15 45 (by kernel_rfl)).trans q15
            refine wpOp_val rfl (wanted_none rfl) ?_ (fK (.int .i64 (t - q)) fW (hR_ fW) (by rw [hT]; exact rfl) (hP_ 16 _ fy fW rfl hJ))
            clear fK hE hF hJ hN
            go_simp
            exact IntWalk.i64_in _ (by unfold I64 at ht6; omega)
          refine stepsAll_cons (k := 17) ?_ ?_
          · intro fa fx fW fy hF hN hJ hE K fK
            have hJ : G (fy 19) (fy 21) fW := hJ
            have q16 : fx 16 = .int .i64 (t - q) := by have q := (hE ⟨16, .data⟩ (by simp) rfl).2; rw [hT] at q; exact q
            have ev46 : fa.tmps[46]?.getD undef = .int .i64 (t - q) := (hF.ev 16 46 (by kernel_rfl)).trans q16
            refine wpOp_val rfl (wanted_none rfl) ?_ (fK (.int .i64 (max (t - q) 0)) fW (hR_ fW) (by rw [hT]; exact rfl) (hP_ 17 _ fy fW rfl hJ))
            clear fK hE hF hJ hN
            go_simp
            split <;> omega
          refine stepsAll_cons (k := 18) ?_ ?_
          · intro fa fx fW fy hF hN hJ hE K fK
            have hJ : G (fy 19) (fy 21) fW := hJ
            have q0 : fx 0 = .slice (some ⟨g, 0, none⟩) l l := by have q := (hE ⟨0, .data⟩ (by simp) rfl).2; rw [hT] at q; exact q
            have q1 : fx 1 = .int .i64 k := by have q := (hE ⟨1, .data⟩ (by simp) rfl).2; rw [hT] at q; exact q
            have ev30 : fa.tmps[30]?.getD undef = .slice (some ⟨g, 0, none⟩) l l := (hF.ev 0 30 (by kernel_rfl)).trans q0
            have ev31 : fa.tmps[31]?.getD undef = .int .i64 k := (hF.ev 1 31 (by kernel_rfl)).trans q1
            refine wpOp_val rfl (wanted_none rfl) ?_ (fK (.pointer (some ⟨g, k, none⟩)) fW (hR_ fW) (by rw [hT]; exact rfl) (hP_ 18 _ fy fW rfl hJ))
            clear fK hE hF hJ hN
            go_simp
          refine stepsAll_cons (k := 19) ?_ ?_
          · intro fa fx fW fy hF hN hJ hE K fK
            have hJ : G (fy 19) (fy 21) fW := hJ
            have q10 : fx 10 = .int .i64 (max (q - t) 0) := by have q := (hE ⟨10, .data⟩ (by simp) rfl).2; rw [hT] at q; exact q
            have q18 : fx 18 = .pointer (some ⟨g, k, none⟩) := by have q := (hE ⟨18, .data⟩ (by simp) rfl).2; rw [hT] at q; exact q
            have ev40 : fa.tmps[40]?.getD undef = .int .i64 (max (q - t) 0) := (hF.ev 10 40 (by kernel_rfl)).trans q10
            have ev48 : fa.tmps[48]?.getD undef = .pointer (some ⟨g, k, none⟩) := (hF.ev 18 48 (by kernel_rfl)).trans q18
            rw [hG, hN] at hJ
            obtain ⟨j1, j2, j3, j4⟩ := hJ
            simp only [Option.isSome_none, Bool.false_eq_true, if_false] at j3
            have hc := j3.cellAt k (by omega)
            have hf := j3.frozenAt k
            rw [getD_nums (show (upto k (moreL (cntL os l) ts))[k]? = some 0 from upto_get _ _ (by rw [HML.out]; exact hlt))] at hc
            have hst := j3.stored k (.int .i64 (max (q - t) 0))
            refine wpOp_done rfl (wanted_none rfl) (W' := fW.setCell ⟨g, k, none⟩ (.int .i64 (max (q - t) 0))) (by clear fK hE hF hN hst; go_simp) (fK undef _ (by rw [hS_]; trivial) (by rw [hT]; exact rfl) ?_)
            show G (some undef) (fy 21) _
            rw [hG]
            rw [nums_set] at hst
            have e : (upto k (moreL (cntL os l) ts)).set k (max (q - t) 0) = upto (k + 1) (moreL (cntL os l) ts) := (upto_succ _ _ _ HMO.out).symm
            refine ⟨j1.grown hst.2 j1.size (fun k hk => by cases hk; exact hgl1), j2.grown hst.2 (fun ad e => (HNW.out ad e).1), ?_, j4.kept hst.2 (.inr (by simp [Value.ownBlock]; exact Ne.symm hgh))⟩
            simp only [Option.isSome_some, if_true]
            rw [← e]
            exact hst.1
          refine stepsAll_cons (k := 20) ?_ ?_
          · intro fa fx fW fy hF hN hJ hE K fK
            have hJ : G (fy 19) (fy 21) fW := hJ
            have q2 : fx 2 = .slice (some ⟨h, 0, none⟩) l l := by have q := (hE ⟨2, .data⟩ (by simp) rfl).2; rw [hT] at q; exact q
            have q3 : fx 3 = .int .i64 k := by have q := (hE ⟨3, .data⟩ (by simp) rfl).2; rw [hT] at q; exact q
            have ev32 : fa.tmps[32]?.getD undef = .slice (some ⟨h, 0, none⟩) l l := (hF.ev 2 32 (by kernel_rfl)).trans q2
            have ev33 : fa.tmps[33]?.getD undef = .int .i64 k := (hF.ev 3 33 (by kernel_rfl)).trans q3
            refine wpOp_val rfl (wanted_none rfl) ?_ (fK (.pointer (some ⟨h, k, none⟩)) fW (hR_ fW) (by rw [hT]; exact rfl) (hP_ 20 _ fy fW rfl hJ))
            clear fK hE hF hJ hN
            go_simp
          refine stepsAll_cons (k := 21) ?_ ?_
          · intro fa fx fW fy hF hN hJ hE K fK
            have hJ : G (fy 19) (fy 21) fW := hJ
            have q17 : fx 17 = .int .i64 (max (t - q) 0) := by have q := (hE ⟨17, .data⟩ (by simp) rfl).2; rw [hT] at q; exact q
            have q20 : fx 20 = .pointer (some ⟨h, k, none⟩) := by have q := (hE ⟨20, .data⟩ (by simp) rfl).2; rw [hT] at q; exact q
            have ev47 : fa.tmps[47]?.getD undef = .int .i64 (max (t - q) 0) := (hF.ev 17 47 (by kernel_rfl)).trans q17
            have ev49 : fa.tmps[49]?.getD undef = .pointer (some ⟨h, k, none⟩) := (hF.ev 20 49 (by kernel_rfl)).trans q20
            rw [hG, hN] at hJ
            obtain ⟨j1, j2, j3, j4⟩ := hJ
            simp only [Option.isSome_none, Bool.false_eq_true, if_false] at j4
            have hc := j4.cellAt k (by omega)
            have hf := j4.frozenAt k
            rw [getD_nums (show (upto k (lackL (cntL os l) ts))[k]? = some 0 from upto_get _ _ (by rw [HLL.out]; exact hlt))] at hc
            have hst := j4.stored k (.int .i64 (max (t - q) 0))
            refine wpOp_done rfl (wanted_none rfl) (W' := fW.setCell ⟨h, k, none⟩ (.int .i64 (max (t - q) 0))) (by clear fK hE hF hN hst; go_simp) (fK undef _ (by rw [hS_]; trivial) (by rw [hT]; exact rfl) ?_)
            show G (fy 19) (some undef) _
            rw [hG]
            rw [nums_set] at hst
            have e : (upto k (lackL (cntL os l) ts)).set k (max (t - q) 0) = upto (k + 1) (lackL (cntL os l) ts) := (upto_succ _ _ _ HLA.out).symm
            refine ⟨j1.grown hst.2 j1.size (fun k hk => by cases hk; exact hhl1), j2.grown hst.2 (fun ad e => (HNW.out ad e).2), j3.kept hst.2 (.inr (by simp [Value.ownBlock]; exact hgh)), ?_⟩
            simp only [Option.isSome_some, if_true]
            rw [← e]
            exact hst.1
          exact stepsAll_nil
        intro fa fx fW fy hF hJ0 hx
        have y19 : fy 19 = some (fx 19) := (hx 19 (by decide)).1
        have y21 : fy 21 = some (fx 21) := (hx 21 (by decide)).1
        have hJ : G (fy 19) (fy 21) fW := hJ0
        clear hJ0
        rw [y19, y21] at hJ
        rw [hF.eq]
        clear hF hx hT T hP_ hR_ y19 y21
        simp only [putAll, Act.put, List.setIfInBounds_toArray, List.set_cons_zero, List.set_cons_succ, ]
        rw [hG] at hJ
        obtain ⟨j1, j2, j3, j4⟩ := hJ
        go_wp2
        go_roundw
        case rel => exact ⟨k + 1, by omega, by go_num, j1, j2, j3, j4⟩
        case measure => simp [intOf]; omega
      · go_wp2
        go_ret2
        have hkl : k = l := by omega
        subst hkl
        rw [upto_all _ _ (by rw [HML.out]; exact Nat.le_refl _)] at HO
        rw [upto_all _ _ (by rw [HLL.out]; exact Nat.le_refl _)] at HO2
        refine ⟨⟨_, _, rfl, ?_⟩, hb⟩
        unfold Needs
        rw [HV.out]
        simp only [HML.out, HLL.out]
        exact ⟨HO, HO2, .inr (by simp [Value.ownBlock]; exact hgh)⟩
end Go.Proofs.Ytjpclnmohemjlaa
