/- A heap that New makes. -/
import Derived.Test.YtopikpjagjnbhaaHeapOut
import Derived.Lib.Mul64
import Derived.Laws.Bits64b
import Derived.Shelf.Bits.Mul64
import Derived.Laws.CopyRow
namespace Go.Proofs.Ytopikpjagjnbhaa
open Go.RowKit
set_option maxHeartbeats 1000000 in
theorem hmul64 (x y : Nat) (hx : x < 18446744073709551616) (hy : y < 18446744073709551616) (w : World) :
    Calls Try.prog 55 #[.int .u64 x, .int .u64 y] w fun e w' => e = .returned (.tuple #[.int .u64 ((x * y / 18446744073709551616 : Nat) : Int), .int .u64 ((x * y % 18446744073709551616 : Nat) : Int)]) ∧ w = w' := by
  obtain ⟨bd, bt, bw, hhi⟩ := Lib.mul64_hi x y hx hy
  have ba := Lib.half_mul_le (a := x / 4294967296) (b := y / 4294967296) (by omega) (by omega)
  have bb := Lib.half_mul_le (a := x / 4294967296) (b := y % 4294967296) (by omega) (by omega)
  have bc := Lib.half_mul_le (a := x % 4294967296) (b := y / 4294967296) (by omega) (by omega)
  have ba' : x / 4294967296 * (y / 4294967296) < 18446744073709551616 := by omega
  have bb' : x / 4294967296 * (y % 4294967296) < 18446744073709551616 := by omega
  have bc' : x % 4294967296 * (y / 4294967296) < 18446744073709551616 := by omega
  have bh1 : x / 4294967296 * (y / 4294967296) + (x / 4294967296 * (y % 4294967296) + x % 4294967296 * (y % 4294967296) / 4294967296) / 4294967296 < 18446744073709551616 := by omega
  have bh : x / 4294967296 * (y / 4294967296) + (x / 4294967296 * (y % 4294967296) + x % 4294967296 * (y % 4294967296) / 4294967296) / 4294967296 + ((x / 4294967296 * (y % 4294967296) + x % 4294967296 * (y % 4294967296) / 4294967296) % 4294967296 + x % 4294967296 * (y / 4294967296)) / 4294967296 < 18446744073709551616 := by omega
  go_enter Try.func55, Try.ntmps55
  go_wp2
  simp only [Mul64.maskN x hx, Mul64.maskN y hy, Mul64.divN, Mul64.mulN, Mul64.addN, Mul64.wrapN _ bd, Mul64.wrapN _ bb', Mul64.wrapN _ bt, Mul64.maskN _ bt, Mul64.wrapN _ bc', Mul64.wrapN _ bw, Mul64.wrapN _ ba', Mul64.wrapN _ bh1, Mul64.wrapN _ bh, Mul64.wrapM (x * y)]
  rw [hhi]
  go_ret2
  exact ⟨rfl, rfl⟩
theorem bmul1 (m : Nat) (hm : m ≤ 4096) (w : World) :
    Calls Try.prog 43 #[.int .u64 1, .int .u64 m] w fun e w' => e = .returned (.tuple #[.int .u64 0, .int .u64 m]) ∧ w = w' := by
  have H : Calls Try.prog 55 #[.int .u64 1, .int .u64 m] w fun e w' => e = .returned (.tuple #[.int .u64 ((1 * m / 18446744073709551616 : Nat) : Int), .int .u64 ((1 * m % 18446744073709551616 : Nat) : Int)]) ∧ w = w' := hmul64 1 m (by omega) (by omega) w
  rw [show (1 * m / 18446744073709551616 : Nat) = 0 by omega, show (1 * m % 18446744073709551616 : Nat) = m by omega] at H
  have HM : Hid (Calls Try.prog 55 #[.int .u64 1, .int .u64 m] w fun e w' => e = .returned (.tuple #[.int .u64 0, .int .u64 m]) ∧ w = w') := H
  clear H
  go_enter Try.func43, Try.ntmps43
  go_wp2_with (go_at_call 55; (with_reducible refine HM.out.mono ?_); rintro e w1 ⟨rfl, rfl⟩)
  go_ret2
  exact ⟨rfl, rfl⟩
/-- -1 so often, behind it 0. -/
def halfs (k m : Nat) : List Value := nums .i64 (List.replicate k (-1)) ++ nums .i64 (List.replicate (m - k) 0)
theorem halfs_len (k m : Nat) (h : k ≤ m) : (halfs k m).length = m := by simp [halfs, nums]; omega
theorem halfs_step (k j m : Nat) (rest : List Value) (hj : j + k ≤ m) : ((halfs k m ++ rest).take k ++ List.replicate j (Value.int .i64 (-1)) ++ (halfs k m ++ rest).drop (k + j)).toArray.toList.take m = halfs (k + j) m := by
  obtain ⟨d, rfl⟩ : ∃ d, m = k + j + d := ⟨m - (k + j), by omega⟩
  have e0 : halfs k (k + j + d) = List.replicate k (Value.int .i64 (-1)) ++ (List.replicate j (Value.int .i64 0) ++ List.replicate d (Value.int .i64 0)) := by
    unfold halfs nums
    rw [List.map_replicate, List.map_replicate, List.replicate_append_replicate, show k + j + d - k = j + d by omega]
  have e5 : halfs (k + j) (k + j + d) = List.replicate k (Value.int .i64 (-1)) ++ (List.replicate j (Value.int .i64 (-1)) ++ List.replicate d (Value.int .i64 0)) := by
    unfold halfs nums
    rw [List.map_replicate, List.map_replicate, ← List.append_assoc, List.replicate_append_replicate, show k + j + d - (k + j) = d by omega]
  rw [e0, e5]
  simp only [List.append_assoc]
  have t1 : (List.replicate k (Value.int .i64 (-1)) ++ (List.replicate j (Value.int .i64 0) ++ (List.replicate d (Value.int .i64 0) ++ rest))).take k = List.replicate k (Value.int .i64 (-1)) := by
    exact List.take_left' (List.length_replicate ..)
  have t2 : (List.replicate k (Value.int .i64 (-1)) ++ (List.replicate j (Value.int .i64 0) ++ (List.replicate d (Value.int .i64 0) ++ rest))).drop (k + j) = List.replicate d (Value.int .i64 0) ++ rest := by
    rw [← List.append_assoc]
    exact List.drop_left' (by simp)
  rw [t1, t2]
  simp only [← List.append_assoc]
  exact List.take_left' (by simp)
theorem copy_self {W : World} {base g m c k j : Nat} (h : W.ownsRow base 3 1 (.slice (some ⟨g, 0, none⟩) m c) m (halfs k m)) (hj : j + k ≤ m) (cs : List Value) (hcs : cs = List.replicate j (.int .i64 (-1))) (a : Addr) (sl sc dl dc : Nat) (hmin : j = Nat.min sl dl) (hsrc : ∀ i v, cs[i]? = some v → W.cell? (a.add i) = some v) :
    ∃ W', (∀ ty, (Builtin.copy_ #[22, 22] ty #[.slice (some ⟨g, k, none⟩) dl dc, .slice (some a) sl sc]).run Try.prog W = .ok (goInt j) W') ∧ W'.ownsRow base 3 1 (.slice (some ⟨g, 0, none⟩) m c) m (halfs (k + j) m) ∧ W.grownBy W' (some g) := by
  rcases h.2 with ⟨h3, _⟩ | ⟨g', cap', cur, hv, hb, hg, hnc, hcm, hcsz, htk⟩
  · simp at h3
  · simp only [Value.slice.injEq, Option.some.injEq, Addr.mk.injEq, and_true, true_and] at hv
    obtain ⟨rfl, rfl⟩ := hv
    have hcl : cs.length = j := by rw [hcs]; simp
    obtain ⟨i0, hi, hzz⟩ := Option.map_eq_some_iff.1 info_hint
    simp only [Prod.mk.injEq] at hzz
    have hsz : (Try.prog.info? 3).map (·.size) = some 1 := by rw [hi]; simp [hzz.2.1]
    have hle : m ≤ c := hnc
    refine ⟨W.setRow g (cur.toList.take k ++ cs ++ cur.toList.drop (k + cs.length)).toArray, fun ty => ?_, ⟨by rw [Nat.mul_one]; exact halfs_len _ _ (by omega), .inr ⟨g, c, _, rfl, hb, setRow_heap W g cur _ 3 _ hg, hnc, hcm, ?_, ?_⟩⟩, ⟨rfl, rfl, rfl, by simp [World.setRow], fun k _ hk => setRow_other W g k _ (fun e => hk (by rw [e]))⟩⟩
    · have hrun := run_copy_row (P := Try.prog) W 22 22 ty 3 g k dl dc a sl sc cur 3 cs Try.underlying22 hsz hg (by rw [hcl]; exact hmin) hsrc (by rw [hcl]; omega) (by rw [hcs]; intro v hv; rw [(List.mem_replicate.1 hv).2]; rfl)
      rw [hrun, hcl]
    · simp only [List.size_toArray, List.length_append, List.length_take, List.length_drop, Array.length_toList]
      omega
    · rw [Nat.mul_one] at htk ⊢
      obtain ⟨rest, hrest⟩ : ∃ rest, cur.toList.drop m = rest := ⟨_, rfl⟩
      have e1 : cur.toList = halfs k m ++ rest := by rw [← htk, ← hrest, List.take_append_drop]
      rw [hcl, e1, hcs]
      exact halfs_step k j m rest hj
set_option maxRecDepth 100000 in
set_option maxHeartbeats 4000000 in
theorem srepeat (g0 c0 : Nat) (m : Nat) (w : World) (h1 : 1 ≤ m) (hm : m ≤ 4096) (hr : Rds w 1 (some ⟨g0, 0, none⟩) 1 c0 (nums .i64 [-1])) :
    Calls Try.prog 26 #[.slice (some ⟨g0, 0, none⟩) 1 c0, .int .i64 m] w fun e w' => (∃ g, e = .returned (.slice (some ⟨g, 0, none⟩) m m) ∧ w'.ownsRow w.heap.size 3 1 (.slice (some ⟨g, 0, none⟩) m m) m (nums .i64 (List.replicate m (-1)))) ∧ Below w.heap.size w w' := by
  have HM := Lib.hid (bmul1 m hm)
  have HCP : Hid (∀ w2, w2.ownsRow w.heap.size 3 1 (.slice (some ⟨w.heap.size, 0, none⟩) m m) m (madeCells (Value.int .i64 0).cells (m * 1)).toList → Below w.heap.size w w2 → ∃ w3, (∀ ty, (Builtin.copy_ #[22, 22] ty #[.slice (some ⟨w.heap.size, 0, none⟩) m m, .slice (some ⟨g0, 0, none⟩) 1 c0]).run Try.prog w2 = .ok (goInt 1) w3) ∧ w3.ownsRow w.heap.size 3 1 (.slice (some ⟨w.heap.size, 0, none⟩) m m) m (halfs 1 m) ∧ Below w.heap.size w w3) := by
    intro w2 ho hb
    rw [Nat.mul_one, show (Value.int .i64 0).cells = #[.int .i64 0] from rfl, toList_madeCells_one, show List.replicate m (Value.int .i64 0) = halfs 0 m by simp [halfs, nums]] at ho
    have hr2 := hr.below hb
    obtain ⟨w3, r1, r2, r3⟩ := copy_self (j := 1) ho (by omega) [.int .i64 (-1)] rfl ⟨g0, 0, none⟩ 1 c0 m m (by show 1 = min 1 m; omega) (fun i v h => hr2.cell _ rfl i v h)
    exact ⟨w3, r1, r2, hb.grown r3 hb.size (fun k e => by cases e; exact Nat.le_refl _)⟩
  clear hr
  go_enter Try.func26, Try.ntmps26
  go_wp2_with (first
    | (go_at_call 43; (with_reducible refine (HM.out _).mono ?_); rintro e w1 ⟨rfl, rfl⟩)
    | (at_make; refine mkn (w0 := w) w.heap.size (by rfl) _ _ 22 3 _ 1 8 (by rfl) Try.underlying22 info_hint _ _ _ _ m (by rfl) (by rfl) (by first | rfl | simp) (by first | rfl | simp) (by omega) (by unfold maxLen; omega) (Below.refl _ _) (Nat.le_refl _) ?_; intro w2 ho2 hb2 hg2; obtain ⟨w3, hcp, ho3, hb3⟩ := HCP.out w2 ho2 hb2; clear ho2 hg2))
  clear HCP hcp HM
  go_loopw [8] (fun i wr => ∃ k : Nat, 1 ≤ k ∧ k ≤ m ∧ i = .int .i64 k ∧ wr.ownsRow w.heap.size 3 1 (.slice (some ⟨w.heap.size, 0, none⟩) m m) m (halfs k m) ∧ Below w.heap.size w wr) (fun i _ => m - (intOf i).toNat)
  case atStart => exact ⟨1, Nat.le_refl _, h1, rfl, ho3, hb3⟩
  case round =>
    obtain ⟨k, hk1, hkm, rfl, hox, hbx⟩ := hrel
    by_cases hk : k < m
    · have hkm' : (k : Int) < (m : Int) := by omega
      obtain ⟨j, hj⟩ : ∃ j, Nat.min k (m - k) = j := ⟨_, rfl⟩
      have hj1 : 1 ≤ j := by rw [← hj]; exact Nat.le_min.2 ⟨hk1, by omega⟩
      have hj2 : j ≤ m - k := by rw [← hj]; exact Nat.min_le_right _ _
      have hj3 : j ≤ k := by rw [← hj]; exact Nat.min_le_left _ _
      have HC : Hid (∀ W, W.ownsRow w.heap.size 3 1 (.slice (some ⟨w.heap.size, 0, none⟩) m m) m (halfs k m) → Below w.heap.size w W → ∃ W', (∀ ty, (Builtin.copy_ #[22, 22] ty #[.slice (some ⟨w.heap.size, k, none⟩) (m - k) (m - k), .slice (some ⟨w.heap.size, 0, none⟩) k m]).run Try.prog W = .ok (goInt j) W') ∧ W'.ownsRow w.heap.size 3 1 (.slice (some ⟨w.heap.size, 0, none⟩) m m) m (halfs (k + j) m) ∧ Below w.heap.size w W') := by
        intro W hoW hbW
        obtain ⟨W', r1, r2, r3⟩ := copy_self hoW (by omega) _ rfl ⟨w.heap.size, 0, none⟩ k m (m - k) (m - k) hj.symm (fun i v h => by
          have hi := get_lt h
          rw [List.length_replicate] at hi
          rw [List.getElem?_replicate, if_pos hi] at h
          cases h
          have h2 := hoW.cellAt i (by omega)
          have h3 : (halfs k m)[i]? = some (Value.int .i64 (-1)) := by
            unfold halfs nums
            rw [List.map_replicate, List.map_replicate, List.getElem?_append_left (by rw [List.length_replicate]; omega), List.getElem?_replicate, if_pos (by omega)]
          have h4 : (halfs k m)[i]'(by rw [halfs_len _ _ hkm]; omega) = Value.int .i64 (-1) := by
            rw [List.getElem?_eq_getElem (by rw [halfs_len _ _ hkm]; omega)] at h3
            exact Option.some.inj h3
          have h5 : (⟨w.heap.size, 0, none⟩ : Addr).add i = ⟨w.heap.size, i, none⟩ := by unfold Addr.add; split <;> simp_all
          rw [h5, h2, ← h4]
          exact List.getElem?_eq_getElem _)
        exact ⟨W', r1, r2, hbW.grown r3 hbW.size (fun k e => by cases e; exact Nat.le_refl _)⟩
      clear hj
      go_wp2
      obtain ⟨G, hG⟩ : ∃ G : Option Value → World → Prop, ∀ a W, G a W = ((a = none → W.ownsRow w.heap.size 3 1 (.slice (some ⟨w.heap.size, 0, none⟩) m m) m (halfs k m) ∧ Below w.heap.size w W) ∧ (∀ u, a = some u → W.ownsRow w.heap.size 3 1 (.slice (some ⟨w.heap.size, 0, none⟩) m m) m (halfs (k + j) m) ∧ Below w.heap.size w W)) := ⟨_, fun _ _ => rfl⟩
      obtain ⟨S_, hS_⟩ : ∃ S_ : World → World → Prop, S_ = (fun _ _ => True) := ⟨_, rfl⟩
      have hR_ : ∀ W, S_ W W := by intro W; rw [hS_]; exact trivial
      obtain ⟨T, hT⟩ : ∃ T : Nat → FactS S_, ∀ t_, T t_ = ([FactS.eq (.int .i64 k), FactS.eq (.slice (some ⟨w.heap.size, 0, none⟩) m m), FactS.eq (.int .i64 k), FactS.eq (.slice (some ⟨w.heap.size, k, none⟩) (m - k) (m - k)), FactS.eq (.slice (some ⟨w.heap.size, 0, none⟩) m m), FactS.eq (.int .i64 k), FactS.eq (.slice (some ⟨w.heap.size, 0, none⟩) k m), FactS.eq (.int .i64 j), FactS.eq (.int .i64 (k + j)), FactS.eq (.int .i64 (k + j))] : List (FactS S_)).getD t_ FactS.any := ⟨_, fun _ => rfl⟩
      have hP_ : ∀ i_ v_ (y_ : Nat → Option Value) W_, ([7].contains i_) = false → G (y_ 7) W_ → G (updY y_ i_ v_ 7) W_ := by
        intro i_ v_ y_ W_ hi_ h_
        simp only [List.contains_cons, List.contains_nil, Bool.or_false, beq_eq_false_iff_ne, ne_eq] at hi_
        rw [updY_ne y_ i_ v_ hi_]
        exact h_
      refine region_tabK [(0, 38), (1, 39), (2, 40), (3, 41), (4, 42), (5, 43), (6, 44), (7, 45), (8, 46), (9, 8)] S_ T (fun y_ W_ => G (y_ 7) W_) (by kernel_rfl) (by kernel_rfl) (by kernel_rfl) (by kernel_rfl) (by kernel_rfl) ?_ ?_ ?_
      · skip
        show G none _
        rw [hG]
        exact ⟨fun _ => ⟨own_below hox (below_dr (Below.refl _ _) 1), below_dr hbx 1⟩, fun u h => by cases h⟩
      · skip
        refine stepsAll_cons (k := 0) ?_ ?_
        · intro fa fx fW fy hF hN hO hJ hE K fK
          have hJ : G (fy 7) fW := hJ
          have ev8 : fa.tmps[8]?.getD undef = .int .i64 k := hO 9 _ 8 ⟨0, .phase⟩ rfl rfl (by simp) rfl rfl
          refine wpOp_val rfl (wanted_none rfl) ?_ (fK (.int .i64 k) fW (hR_ fW) (by rw [hT]; exact rfl) (hP_ 0 _ fy fW rfl hJ))
          clear fK hE hF hJ hN hO
          go_simp
        refine stepsAll_cons (k := 1) ?_ ?_
        · intro fa fx fW fy hF hN hO hJ hE K fK
          have hJ : G (fy 7) fW := hJ
          have ev7 : fa.tmps[7]?.getD undef = .slice (some ⟨w.heap.size, 0, none⟩) m m := hF.eo 7 (by kernel_rfl)
          refine wpOp_val rfl (wanted_none rfl) ?_ (fK (.slice (some ⟨w.heap.size, 0, none⟩) m m) fW (hR_ fW) (by rw [hT]; exact rfl) (hP_ 1 _ fy fW rfl hJ))
          clear fK hE hF hJ hN hO
          go_simp
        refine stepsAll_cons (k := 2) ?_ ?_
        · intro fa fx fW fy hF hN hO hJ hE K fK
          have hJ : G (fy 7) fW := hJ
          have ev8 : fa.tmps[8]?.getD undef = .int .i64 k := hO 9 _ 8 ⟨2, .phase⟩ rfl rfl (by simp) rfl rfl
          refine wpOp_val rfl (wanted_none rfl) ?_ (fK (.int .i64 k) fW (hR_ fW) (by rw [hT]; exact rfl) (hP_ 2 _ fy fW rfl hJ))
          clear fK hE hF hJ hN hO
          go_simp
        refine stepsAll_cons (k := 3) ?_ ?_
        · intro fa fx fW fy hF hN hO hJ hE K fK
          have hJ : G (fy 7) fW := hJ
          have q1 : fx 1 = .slice (some ⟨w.heap.size, 0, none⟩) m m := by have q := (hE ⟨1, .data⟩ (by simp) rfl).2; rw [hT] at q; exact q
          have q2 : fx 2 = .int .i64 k := by have q := (hE ⟨2, .data⟩ (by simp) rfl).2; rw [hT] at q; exact q
          have ev39 : fa.tmps[39]?.getD undef = .slice (some ⟨w.heap.size, 0, none⟩) m m := (hF.ev 1 39 (by kernel_rfl)).trans q1
          have ev40 : fa.tmps[40]?.getD undef = .int .i64 k := (hF.ev 2 40 (by kernel_rfl)).trans q2
          have hx1 : ¬ m = k := by omega
          refine wpOp_val rfl (wanted_none rfl) ?_ (fK (.slice (some ⟨w.heap.size, k, none⟩) (m - k) (m - k)) fW (hR_ fW) (by rw [hT]; exact rfl) (hP_ 3 _ fy fW rfl hJ))
          clear fK hE hF hJ hN hO
          go_simp
        refine stepsAll_cons (k := 4) ?_ ?_
        · intro fa fx fW fy hF hN hO hJ hE K fK
          have hJ : G (fy 7) fW := hJ
          have ev7 : fa.tmps[7]?.getD undef = .slice (some ⟨w.heap.size, 0, none⟩) m m := hF.eo 7 (by kernel_rfl)
          refine wpOp_val rfl (wanted_none rfl) ?_ (fK (.slice (some ⟨w.heap.size, 0, none⟩) m m) fW (hR_ fW) (by rw [hT]; exact rfl) (hP_ 4 _ fy fW rfl hJ))
          clear fK hE hF hJ hN hO
          go_simp
        refine stepsAll_cons (k := 5) ?_ ?_
        · intro fa fx fW fy hF hN hO hJ hE K fK
          have hJ : G (fy 7) fW := hJ
          have ev8 : fa.tmps[8]?.getD undef = .int .i64 k := hO 9 _ 8 ⟨5, .phase⟩ rfl rfl (by simp) rfl rfl
          refine wpOp_val rfl (wanted_none rfl) ?_ (fK (.int .i64 k) fW (hR_ fW) (by rw [hT]; exact rfl) (hP_ 5 _ fy fW rfl hJ))
          clear fK hE hF hJ hN hO
          go_simp
        refine stepsAll_cons (k := 6) ?_ ?_
        · intro fa fx fW fy hF hN hO hJ hE K fK
          have hJ : G (fy 7) fW := hJ
          have q4 : fx 4 = .slice (some ⟨w.heap.size, 0, none⟩) m m := by have q := (hE ⟨4, .data⟩ (by simp) rfl).2; rw [hT] at q; exact q
          have q5 : fx 5 = .int .i64 k := by have q := (hE ⟨5, .data⟩ (by simp) rfl).2; rw [hT] at q; exact q
          have ev42 : fa.tmps[42]?.getD undef = .slice (some ⟨w.heap.size, 0, none⟩) m m := (hF.ev 4 42 (by kernel_rfl)).trans q4
          have ev43 : fa.tmps[43]?.getD undef = .int .i64 k := (hF.ev 5 43 (by kernel_rfl)).trans q5
          refine wpOp_val rfl (wanted_none rfl) ?_ (fK (.slice (some ⟨w.heap.size, 0, none⟩) k m) fW (hR_ fW) (by rw [hT]; exact rfl) (hP_ 6 _ fy fW rfl hJ))
          clear fK hE hF hJ hN hO
          go_simp
        refine stepsAll_cons (k := 7) ?_ ?_
        · intro fa fx fW fy hF hN hO hJ hE K fK
          have hJ : G (fy 7) fW := hJ
          have q3 : fx 3 = .slice (some ⟨w.heap.size, k, none⟩) (m - k) (m - k) := by have q := (hE ⟨3, .data⟩ (by simp) rfl).2; rw [hT] at q; exact q
          have q6 : fx 6 = .slice (some ⟨w.heap.size, 0, none⟩) k m := by have q := (hE ⟨6, .data⟩ (by simp) rfl).2; rw [hT] at q; exact q
          have ev41 : fa.tmps[41]?.getD undef = .slice (some ⟨w.heap.size, k, none⟩) (m - k) (m - k) := (hF.ev 3 41 (by kernel_rfl)).trans q3
          have ev44 : fa.tmps[44]?.getD undef = .slice (some ⟨w.heap.size, 0, none⟩) k m := (hF.ev 6 44 (by kernel_rfl)).trans q6
          rw [hG, hN] at hJ
          obtain ⟨j0, _⟩ := hJ
          obtain ⟨j1, j2⟩ := j0 rfl
          obtain ⟨W2, hc1, hc2, hc3⟩ := HC.out _ j1 j2
          refine wpOp_to rfl (wanted_none rfl) (v := goInt j) (W' := W2) (by clear fK hE hF; go_simp) (fK _ _ (by rw [hS_]; trivial) (by rw [hT]; exact rfl) ?_)
          show G (some _) _
          rw [hG]
          exact ⟨(fun e => by cases e), fun u e => ⟨hc2, hc3⟩⟩
        refine stepsAll_cons (k := 8) ?_ ?_
        · intro fa fx fW fy hF hN hO hJ hE K fK
          have hJ : G (fy 7) fW := hJ
          have q0 : fx 0 = .int .i64 k := by have q := (hE ⟨0, .data⟩ (by simp) rfl).2; rw [hT] at q; exact q
          have q7 : fx 7 = .int .i64 j := by have q := (hE ⟨7, .data⟩ (by simp) rfl).2; rw [hT] at q; exact q
          have y7 : fy 7 = some (fx 7) := (hE ⟨7, .data⟩ (by simp) rfl).1
          have ev38 : fa.tmps[38]?.getD undef = .int .i64 k := (hF.ev 0 38 (by kernel_rfl)).trans q0
          have ev45 : fa.tmps[45]?.getD undef = .int .i64 j := (hF.ev 7 45 (by kernel_rfl)).trans q7
          have hw8 : IntKind.i64.wrap ((k : Int) + (j : Int)) = (k : Int) + (j : Int) := by rw [IntKind.wrap_i64] <;> omega
          refine wpOp_val rfl (wanted_none rfl) ?_ (fK (.int .i64 (k + j)) fW (hR_ fW) (by rw [hT]; exact rfl) (hP_ 8 _ fy fW rfl hJ))
          clear fK hE hF hJ hN hO
          go_simp
        refine stepsAll_cons (k := 9) ?_ ?_
        · intro fa fx fW fy hF hN hO hJ hE K fK
          have hJ : G (fy 7) fW := hJ
          have q8 : fx 8 = .int .i64 (k + j) := by have q := (hE ⟨8, .data⟩ (by simp) rfl).2; rw [hT] at q; exact q
          have ev46 : fa.tmps[46]?.getD undef = .int .i64 (k + j) := (hF.ev 8 46 (by kernel_rfl)).trans q8
          refine wpOp_val rfl (wanted_none rfl) ?_ (fK (.int .i64 (k + j)) fW (hR_ fW) (by rw [hT]; exact rfl) (hP_ 9 _ fy fW rfl hJ))
          clear fK hE hF hJ hN hO
          go_simp
        exact stepsAll_nil
      intro fa fx fW fy hF hJ0 hx
      have y7 : fy 7 = some (fx 7) := (hx 7 (by decide)).1
      have hJ : G (fy 7) fW := hJ0
      clear hJ0
      rw [y7] at hJ
      have q9 : fx 9 = .int .i64 (k + j) := by have q := (hx 9 (by decide)).2; rw [hT] at q; exact q
      have ev8 : fa.tmps[8]?.getD undef = .int .i64 (k + j) := (hF.ev 9 8 (by kernel_rfl)).trans q9
      rw [hF.eq]
      clear hF hx hT T hP_ hR_ y7
      simp only [putAll, Act.put, List.setIfInBounds_toArray, List.set_cons_zero, List.set_cons_succ, q9]
      rw [hG] at hJ
      obtain ⟨p1, p2⟩ := hJ.2 _ rfl
      clear hJ
      go_wp2
      go_roundw
      case rel => exact ⟨k + j, by omega, by omega, by go_num, p1, p2⟩
      case measure => simp only [intOf]; omega
    · obtain rfl : k = m := by omega
      go_wp2
      go_ret
      refine ⟨⟨_, rfl, ?_⟩, hbx⟩
      rwa [show halfs k k = nums .i64 (List.replicate k (-1)) by simp [halfs, nums]] at hox
set_option maxHeartbeats 1000000 in
/-- New, of a size that may not be. -/
theorem hnewNo (z : Int) (w : World) (hz : z < 1 ∨ 4096 < z) : Calls Try.prog 9 #[.int .i64 z] w fun e w' => e = .returned (.pointer none) ∧ w = w' := by
  by_cases h1 : z < 1
  · go_enter Try.func9, Try.ntmps9
    go_wp2
    go_ret
    exact ⟨rfl, rfl⟩
  · have h2 : 4096 < z := by omega
    go_enter Try.func9, Try.ntmps9
    go_wp2
    go_ret
    exact ⟨rfl, rfl⟩
/-- What New has made. -/
def FHp (B n : Nat) : Fact := ⟨fun v W => ∃ b gk gp cp, v = .pointer (some ⟨b, 0, none⟩) ∧ B ≤ b ∧ B ≤ gk ∧ B ≤ gp ∧ Hp W b gk gp B n n cp (.slice none 0 0) (newV n), fun _ _ _ ⟨b, gk, gp, cp, h1, h2, h3, h4, h5⟩ hb => ⟨b, gk, gp, cp, h1, h2, h3, h4, h5.below hb⟩⟩
def FRow (B n : Nat) (l : List Int) : Fact := ⟨fun v W => ∃ g, v = .slice (some ⟨g, 0, none⟩) n n ∧ W.ownsRow B 3 1 v n (nums .i64 l), fun _ _ _ ⟨g, h1, h2⟩ hb => ⟨g, h1, own_below h2 hb⟩⟩
def FNew (B n : Nat) : Fact := ⟨fun v W => ∃ gk gp, v = .agg #[.slice none 0 0, .slice (some ⟨gk, 0, none⟩) n n, .slice (some ⟨gp, 0, none⟩) n n] ∧ W.ownsRow B 3 1 (.slice (some ⟨gk, 0, none⟩) n n) n (nums .i64 (List.replicate n 0)) ∧ W.ownsRow B 3 1 (.slice (some ⟨gp, 0, none⟩) n n) n (nums .i64 (List.replicate n (-1))), fun _ _ _ ⟨gk, gp, h1, h2, h3⟩ hb => ⟨gk, gp, h1, own_below h2 hb, own_below h3 hb⟩⟩
theorem new_hp {W : World} {B n gk gp : Nat} (hn : 1 ≤ n) (hB : B ≤ W.heap.size) (h1 : W.ownsRow B 3 1 (.slice (some ⟨gk, 0, none⟩) n n) n (nums .i64 (List.replicate n 0))) (h2 : W.ownsRow B 3 1 (.slice (some ⟨gp, 0, none⟩) n n) n (nums .i64 (List.replicate n (-1)))) :
    (FHp B n).p (.pointer (some ⟨W.heap.size, 0, none⟩)) (W.alloc (.cells #[.slice none 0 0, .slice (some ⟨gk, 0, none⟩) n n, .slice (some ⟨gp, 0, none⟩) n n] 53)) := by
  have hb : Below W.heap.size W (W.alloc (.cells #[.slice none 0 0, .slice (some ⟨gk, 0, none⟩) n n, .slice (some ⟨gp, 0, none⟩) n n] 53)) := below_al (Below.refl _ _) _
  have l1 := (h1.lt gk rfl).2
  have l2 := (h2.lt gp rfl).2
  have hne : gp ≠ gk := by
    intro e
    subst e
    have t1 := (rowGet h1 (i := 0) (by omega)).1
    have t2 := (rowGet h2 (i := 0) (by omega)).1
    rw [t1] at t2
    simp [show 0 < n by omega] at t2
  refine ⟨_, gk, gp, n, rfl, hB, (h1.lt gk rfl).1, (h2.lt gp rfl).1, ⟨?_, ⟨rfl, .inl ⟨rfl, rfl⟩⟩, ⟨?_, own_below h1 hb⟩, ?_, own_below h2 hb, by omega, hne, by omega, fun k e => by cases e⟩⟩ <;> (constructor <;> go_simp)
set_option maxRecDepth 100000 in
set_option maxHeartbeats 4000000 in
theorem hnew (n : Nat) (z : Int) (hz : z = (n : Int)) (w : World) (h1 : 1 ≤ n) (h2 : n ≤ 4096) : Calls Try.prog 9 #[.int .i64 z] w fun e w' => ((∃ v, e = .returned v ∧ (FHp w.heap.size n).p v w') ∧ Below w.heap.size w w') := by
  subst hz
  have hx1 : ¬ ((n : Int) < 1) := by omega
  have hx2 : ¬ (4096 < (n : Int)) := by omega
  have HP := Lib.hid (fun g c W hr => srepeat g c n W h1 h2 hr)
  go_enter Try.func9, Try.ntmps9
  go_wp2
  obtain ⟨T, hT⟩ : ∃ T : Nat → Fact, ∀ t_, T t_ = ([Fact.eq (.int .i64 n), FRow w.heap.size n (List.replicate n 0), (⟨fun u W => ∃ g, u = .slice (some ⟨g, 0, none⟩) 1 1 ∧ Rds W 1 (some ⟨g, 0, none⟩) 1 1 (nums .i64 [-1]), fun u W W' ⟨g, h1, h2⟩ hb => ⟨g, h1, h2.below hb⟩⟩ : Fact), Fact.eq (.int .i64 n), FRow w.heap.size n (List.replicate n (-1)), FNew w.heap.size n, FHp w.heap.size n, FHp w.heap.size n] : List (Fact)).getD t_ Fact.any := ⟨_, fun _ => rfl⟩
  refine region_tab [(0, 9), (1, 10), (2, 11), (3, 12), (4, 13), (5, 14), (6, 15), (7, 2)] T (by kernel_rfl) (by kernel_rfl) (by kernel_rfl) (by kernel_rfl) (by kernel_rfl) ?_ ?_
  · skip
    refine stepsAll_cons (k := 0) ?_ ?_
    · intro fa fx fW hF fB hE K fK
      have ev0 : fa.tmps[0]?.getD undef = .int .i64 n := hF.eo 0 (by kernel_rfl)
      refine wpOp_val rfl (wanted_none rfl) ?_ (fK (.int .i64 n) fW (Below.refl _ _) (by rw [hT]; exact rfl))
      clear fK hE hF
      go_simp
    refine stepsAll_cons (k := 1) ?_ ?_
    · intro fa fx fW hF fB hE K fK
      have q0 : fx 0 = .int .i64 n := by have q := hE ⟨0, .data⟩ (by simp) rfl; rw [hT] at q; exact q
      have ev9 : fa.tmps[9]?.getD undef = .int .i64 n := (hF.ev 0 9 (by kernel_rfl)).trans q0
      refine wpOp_list rfl (mkn (w0 := fW) w.heap.size rfl _ _ 22 3 _ 1 8 rfl Try.underlying22 info_hint .i64 .i64 _ _ n (by go_simp) (by go_simp) rfl rfl (by omega) (by unfold maxLen; omega) (Below.refl _ _) fB.size ?_)
      intro w2 ho2 hb2 hg2
      rw [Nat.mul_one, show (Value.int .i64 0).cells = #[.int .i64 0] from rfl, toList_madeCells_one] at ho2
      exact fK _ _ ((Below.refl _ _).grown hg2 (Nat.le_refl _) (fun k hk => by cases hk)) (by rw [hT]; exact ⟨_, rfl, by simpa [nums] using ho2⟩)
    refine stepsAll_cons (k := 2) ?_ ?_
    · intro fa fx fW hF fB hE K fK
      refine wpOp_to rfl (wanted_none rfl) (v := .slice (some ⟨fW.heap.size, 0, none⟩) 1 1) (W' := fW.alloc (.cells #[.int .i64 (-1)] 3)) (by clear fK hE hF; go_simp) (fK _ _ (below_al (Below.refl _ _) _) (by rw [hT]; exact ⟨_, rfl, rds_lit fW 3 1 1 _ rfl (by decide)⟩))
    refine stepsAll_cons (k := 3) ?_ ?_
    · intro fa fx fW hF fB hE K fK
      have ev0 : fa.tmps[0]?.getD undef = .int .i64 n := hF.eo 0 (by kernel_rfl)
      refine wpOp_val rfl (wanted_none rfl) ?_ (fK (.int .i64 n) fW (Below.refl _ _) (by rw [hT]; exact rfl))
      clear fK hE hF
      go_simp
    refine stepsAll_cons (k := 4) ?_ ?_
    · intro fa fx fW hF fB hE K fK
      have q2 : ((⟨fun u W => ∃ g, u = .slice (some ⟨g, 0, none⟩) 1 1 ∧ Rds W 1 (some ⟨g, 0, none⟩) 1 1 (nums .i64 [-1]), fun u W W' ⟨g, h1, h2⟩ hb => ⟨g, h1, h2.below hb⟩⟩ : Fact)).p (fx 2) fW := by have q := hE ⟨2, .data⟩ (by simp) rfl; rw [hT] at q; exact q
      have q3 : fx 3 = .int .i64 n := by have q := hE ⟨3, .data⟩ (by simp) rfl; rw [hT] at q; exact q
      have ev11 : fa.tmps[11]?.getD undef = fx 2 := hF.ev 2 11 (by kernel_rfl)
      have ev12 : fa.tmps[12]?.getD undef = .int .i64 n := (hF.ev 3 12 (by kernel_rfl)).trans q3
      refine wpOp_call rfl (wanted_none rfl) (by go_simp; exact ⟨rfl, rfl⟩) ?_
      obtain ⟨g, hg, hr⟩ := q2
      rw [hg]
      refine (HP.out _ _ fW hr).mono ?_
      rintro e w1 ⟨⟨g2, rfl, ho⟩, hb⟩
      exact ⟨_, rfl, fK (_) (w1) (hb) (by rw [hT]; exact ⟨g2, rfl, own_mono ho fB.size⟩)⟩
    refine stepsAll_cons (k := 5) ?_ ?_
    · intro fa fx fW hF fB hE K fK
      have q1 : (FRow w.heap.size n (List.replicate n 0)).p (fx 1) fW := by have q := hE ⟨1, .data⟩ (by simp) rfl; rw [hT] at q; exact q
      have q4 : (FRow w.heap.size n (List.replicate n (-1))).p (fx 4) fW := by have q := hE ⟨4, .data⟩ (by simp) rfl; rw [hT] at q; exact q
      have ev10 : fa.tmps[10]?.getD undef = fx 1 := hF.ev 1 10 (by kernel_rfl)
      have ev13 : fa.tmps[13]?.getD undef = fx 4 := hF.ev 4 13 (by kernel_rfl)
      obtain ⟨gk, e1, o1⟩ := q1
      obtain ⟨gp, e2, o2⟩ := q4
      rw [e1] at ev10 o1
      rw [e2] at ev13 o2
      refine wpOp_val rfl (wanted_none rfl) ?_ (fK (.agg #[.slice none 0 0, .slice (some ⟨gk, 0, none⟩) n n, .slice (some ⟨gp, 0, none⟩) n n]) fW (Below.refl _ _) (by rw [hT]; exact ⟨gk, gp, rfl, o1, o2⟩))
      clear fK hE hF o1 o2
      go_simp
    refine stepsAll_cons (k := 6) ?_ ?_
    · intro fa fx fW hF fB hE K fK
      have q5 : (FNew w.heap.size n).p (fx 5) fW := by have q := hE ⟨5, .data⟩ (by simp) rfl; rw [hT] at q; exact q
      have ev14 : fa.tmps[14]?.getD undef = fx 5 := hF.ev 5 14 (by kernel_rfl)
      obtain ⟨gk, gp, e5, o1, o2⟩ := q5
      rw [e5] at ev14
      have hnh := new_hp h1 fB.size o1 o2
      refine wpOp_to rfl (wanted_none rfl) ?_ (fK (.pointer (some ⟨fW.heap.size, 0, none⟩)) (fW.alloc (.cells #[.slice none 0 0, .slice (some ⟨gk, 0, none⟩) n n, .slice (some ⟨gp, 0, none⟩) n n] 53)) (below_al (Below.refl _ _) _) (by rw [hT]; exact hnh))
      clear fK hE hF o1 o2 hnh
      go_simp
    refine stepsAll_cons (k := 7) ?_ ?_
    · intro fa fx fW hF fB hE K fK
      have q6 : (FHp w.heap.size n).p (fx 6) fW := by have q := hE ⟨6, .data⟩ (by simp) rfl; rw [hT] at q; exact q
      have ev15 : fa.tmps[15]?.getD undef = fx 6 := hF.ev 6 15 (by kernel_rfl)
      refine wpOp_val rfl (wanted_none rfl) (v := fx 6) (by clear fK hE hF; go_simp) (fK _ _ (Below.refl _ _) (by rw [hT]; exact q6))
    exact stepsAll_nil
  intro fa fx fW hF fB hx
  have q7 : (FHp w.heap.size n).p (fx 7) fW := by have q := hx 7 (by decide); rw [hT] at q; exact q
  have ev2 : fa.tmps[2]?.getD undef = fx 7 := hF.ev 7 2 (by kernel_rfl)
  rw [hF.eq]
  clear hF hx
  simp only [putAll, Act.put, List.setIfInBounds_toArray, List.set_cons_zero, List.set_cons_succ, ]
  clear HP
  go_wp2
  go_ret
  exact ⟨⟨_, rfl, q7⟩, fB⟩
end Go.Proofs.Ytopikpjagjnbhaa
