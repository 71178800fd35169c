/- The document's heap: its rows. -/
import Derived.Test.YtopikpjagjnbhaaHeapUse
import Derived.Test.YtopikpjagjnbhaaZRegionS
import Derived.Test.YtopikpjagjnbhaaSortW
import Derived.Deep.Slices
namespace Go.Proofs.Ytopikpjagjnbhaa
open Go.RowKit
/-- The document's heap. -/
structure Rf (w : World) (base mb : Nat) (most : Int) (v1 v2 : Value) (ids : List Nat) (keys : List Int) : Prop where
  mo : Box w mb 0 (.int .i64 most)
  ib : Box w mb 1 v1
  kb : Box w mb 2 v2
  io : w.ownsRow base 3 1 v1 ids.length (nums .i64 (zs ids))
  ko : w.ownsRow base 3 1 v2 ids.length (nums .i64 keys)
  n1 : v1.ownBlock ≠ some mb
  n2 : v2.ownBlock ≠ some mb
  lb : base ≤ mb
variable {w : World} {base mb : Nat} {most : Int} {v1 v2 : Value} {ids : List Nat} {keys : List Int}
theorem Rf.below {w1 : World} (R : Rf w base mb most v1 v2 ids keys) (h : Below w.heap.size w w1) : Rf w1 base mb most v1 v2 ids keys :=
  ⟨R.mo.below h, R.ib.below h, R.kb.below h, own_below R.io h, own_below R.ko h, R.n1, R.n2, R.lb⟩
theorem Rf.keep {w1 : World} {S : Nat → Prop} (R : Rf w base mb most v1 v2 ids keys) (h : Chg S w w1) (h0 : ¬ S mb) (h1 : ∀ k, v1.ownBlock = some k → ¬ S k) (h2 : ∀ k, v2.ownBlock = some k → ¬ S k) : Rf w1 base mb most v1 v2 ids keys :=
  ⟨R.mo.keep h h0, R.ib.keep h h0, R.kb.keep h h0, h.own R.io h1, h.own R.ko h2, R.n1, R.n2, R.lb⟩
theorem Rf.klen (R : Rf w base mb most v1 v2 ids keys) : keys.length = ids.length := by
  have h := R.ko.1
  rw [nums_length] at h
  omega
theorem Rds.restI {w : World} {A : Option Addr} {m c N : Nat} {cs : List Value} (h : Rds w 1 A m c cs) (hN : N ≤ m) : Rds w 1 (A.map (fun ad => if c = N then ad else ad.add N)) (m - N) (c - N) (cs.drop N) := by
  cases A with
  | none =>
    obtain ⟨rfl, rfl, rfl⟩ := h.nil_n
    obtain rfl : N = 0 := by omega
    exact h
  | some ad =>
    have h1 := h.len
    have h2 := h.le
    have h3 := h.max
    refine ⟨by rw [List.length_drop, h1]; omega, by omega, by omega, (fun e => by cases e), fun ad' e j v hj => ?_⟩
    cases e
    rw [List.getElem?_drop] at hj
    have h4 := h.cell ad rfl (N + j) v hj
    by_cases hc : c = N
    · exfalso
      have : N + j < cs.length := (List.getElem?_eq_some_iff.1 hj).1
      omega
    · show w.cell? ((if c = N then ad else ad.add N).add j) = some v
      rw [if_neg hc, Go.Deep.add_add]
      exact h4
theorem own_at {W : World} {B n : Nat} {v : Value} {xs : List Int} (h : W.ownsRow B 3 1 v n (nums .i64 xs)) (hn : 0 < n) : ∃ g c, v = .slice (some ⟨g, 0, none⟩) n c := by
  rcases h.2 with ⟨_, h4⟩ | ⟨g, c, _, h4, _⟩
  · omega
  · exact ⟨g, c, h4⟩
theorem nums_takeI (xs : List Int) (i : Nat) : (nums .i64 xs).take i = nums .i64 (xs.take i) := by simp [nums, List.map_take]
theorem nums_dropI (xs : List Int) (i : Nat) : (nums .i64 xs).drop i = nums .i64 (xs.drop i) := by simp [nums, List.map_drop]
theorem rf_set1 {W5 fW : World} {A : Option Addr} {n cap B : Nat} {i : Nat} {x : Nat} {u : Value} (hn : ids.length = n) (R : Rf W5 base mb most (.slice A n cap) v2 ids keys) (hb : Below W5.heap.size W5 fW) (hB : B = W5.heap.size) (ho : fW.ownsRow B 3 1 u (i + 1 + (n - i)) (nums .i64 ((zs ids).take i) ++ [.int .i64 (x : Nat)] ++ nums .i64 ((zs ids).drop i))) :
    Box (fW.setCell ⟨mb, 1, none⟩ u) mb 0 (.int .i64 most) ∧ Box (fW.setCell ⟨mb, 1, none⟩ u) mb 1 u ∧ Box (fW.setCell ⟨mb, 1, none⟩ u) mb 2 v2 ∧ (fW.setCell ⟨mb, 1, none⟩ u).ownsRow base 3 1 u (i + 1 + (n - i)) (nums .i64 (zs (ids.take i ++ [x] ++ ids.drop i))) ∧ (fW.setCell ⟨mb, 1, none⟩ u).ownsRow base 3 1 v2 n (nums .i64 keys) ∧ u.ownBlock ≠ some mb ∧ (∀ k, u.ownBlock = some k → W5.heap.size ≤ k) := by
  have hml := R.mo.lt
  have hub : ∀ k, u.ownBlock = some k → W5.heap.size ≤ k := fun k e => by rw [← hB]; exact own_base ho k e
  have c1 : Chg (fun k => k = mb) fW (fW.setCell ⟨mb, 1, none⟩ u) := (Chg.refl _ _).setCell _ _ _ rfl
  have R1 := R.below hb
  have hsz := hb.size
  have hlb := R.lb
  refine ⟨R1.mo.set_other _ (by decide), R1.ib.set _, R1.kb.set_other _ (by decide), ?_, ?_, fun e => by have := hub mb e; omega, hub⟩
  · have h1 := c1.own (own_mono ho (show base ≤ B by omega)) (fun k e => by have := hub k e; omega)
    have e : nums .i64 (zs (ids.take i ++ [x] ++ ids.drop i)) = nums .i64 ((zs ids).take i) ++ [.int .i64 (x : Nat)] ++ nums .i64 ((zs ids).drop i) := by simp [nums, zs, List.map_take, List.map_drop]
    rw [e]
    exact h1
  · have h2 := R1.ko
    rw [hn] at h2
    exact c1.own h2 (fun k e e2 => R.n2 (by rw [← e2]; exact e))
/-- The half of it that holds the keys. -/
structure Rk (w : World) (base mb : Nat) (most : Int) (v2 : Value) (n : Nat) (keys : List Int) : Prop where
  mo : Box w mb 0 (.int .i64 most)
  kb : Box w mb 2 v2
  ko : w.ownsRow base 3 1 v2 n (nums .i64 keys)
theorem rf_set2 {W6 fW : World} {B n m : Nat} {u1 u2 v2 : Value} {ids2 : List Nat} {keys2 : List Int} (hl : ids2.length = m) (s0 : Box W6 mb 0 (.int .i64 most)) (s1 : Box W6 mb 1 u1) (s2 : Box W6 mb 2 v2) (s3 : W6.ownsRow base 3 1 u1 n (nums .i64 (zs ids2))) (s5 : u1.ownBlock ≠ some mb) (hlb : base ≤ mb) (hb : Below W6.heap.size W6 fW) (hB : B = W6.heap.size) (ho : fW.ownsRow B 3 1 u2 m (nums .i64 keys2)) :
    Rf (fW.setCell ⟨mb, 2, none⟩ u2) base mb most u1 u2 ids2 keys2 := by
  have hml := s0.lt
  have hub : ∀ k, u2.ownBlock = some k → W6.heap.size ≤ k := fun k e => by rw [← hB]; exact own_base ho k e
  have c1 : Chg (fun k => k = mb) fW (fW.setCell ⟨mb, 2, none⟩ u2) := (Chg.refl _ _).setCell _ _ _ rfl
  have hn : n = m := by have := s3.1; rw [nums_length] at this; simp [zs] at this; omega
  refine ⟨(s0.below hb).set_other _ (by decide), (s1.below hb).set_other _ (by decide), (s2.below hb).set _, ?_, ?_, s5, fun e => by have := hub mb e; omega, hlb⟩
  · rw [hl, ← hn]
    exact c1.own (own_below s3 hb) (fun k e e2 => s5 (by rw [← e2]; exact e))
  · rw [hl]
    exact c1.own (own_mono ho (by omega)) (fun k e => by have := hub k e; omega)
end Go.Proofs.Ytopikpjagjnbhaa

/- The document's heap: in. -/
namespace Go.Proofs.Ytopikpjagjnbhaa
open Go.RowKit
variable {w : World} {base mb : Nat} {most : Int} {v1 v2 : Value} {ids : List Nat} {keys : List Int}
set_option maxRecDepth 100000 in
set_option maxHeartbeats 8000000 in
theorem rfin (R : Rf w base mb most v1 v2 ids keys) (x : Nat) (z key : Int) (hz : z = (x : Int)) (hn : ids.length ≤ 4096) :
    Calls Try.prog 51 #[.pointer (some ⟨mb, 0, none⟩), .int .i64 z, .int .i64 key] w fun e w' => e = .returned (.tuple #[]) ∧ ∃ (i : Nat) (u1 u2 : Value), i ≤ ids.length ∧ Hid (∀ j, j < i → keys.getD j 0 < key ∨ (keys.getD j 0 = key ∧ ids.getD j 0 < x)) ∧ Hid (i < ids.length → ¬ (keys.getD i 0 < key ∨ (keys.getD i 0 = key ∧ ids.getD i 0 < x))) ∧ Hid (Rf w' base mb most u1 u2 (ids.take i ++ [x] ++ ids.drop i) (keys.take i ++ [key] ++ keys.drop i)) ∧ Hid (Chg (fun k => k = mb) w w') ∧ Hid (∀ k, u1.ownBlock = some k ∨ u2.ownBlock = some k → w.heap.size ≤ k) := by
  subst hz
  have HR := Lib.hid R
  obtain ⟨n, hnl⟩ : ∃ n, ids.length = n := ⟨_, rfl⟩
  have HNL := Lib.hid hnl
  have HKL : Hid (keys.length = n) := Lib.hid (by rw [← hnl]; exact R.klen)
  obtain ⟨A, cap, rfl⟩ : ∃ A cap, v1 = .slice A n cap := by
    obtain ⟨A, cap, h⟩ := own_slice R.io
    rw [hnl] at h
    exact ⟨A, cap, h⟩
  obtain ⟨A2, cap2, rfl⟩ : ∃ A2 cap2, v2 = .slice A2 n cap2 := by
    obtain ⟨A2, cap2, h⟩ := own_slice R.ko
    rw [hnl] at h
    exact ⟨A2, cap2, h⟩
  rw [hnl] at hn ⊢
  clear R hnl
  go_enter Try.func51, Try.ntmps51
  go_wp2
  go_loopw [6] (fun s wr => ∃ (i : Nat), i ≤ n ∧ s = .int .i64 i ∧ Hid (∀ j, j < i → keys.getD j 0 < key ∨ (keys.getD j 0 = key ∧ ids.getD j 0 < x)) ∧ Hid (Below w.heap.size w wr)) (fun s _ => n - (intOf s).toNat)
  case atStart => exact ⟨0, Nat.zero_le _, rfl, Lib.hid (fun j h => absurd h (Nat.not_lt_zero _)), Lib.hid (Below.refl _ _)⟩
  case round =>
    obtain ⟨i, hin0, rfl, HLO, HB⟩ := hrel
    have R1 := HR.out.below HB.out
    have k1 := R1.ib.cell
    have k2 := R1.kb.cell
    by_cases hlt : i < n
    · have hlt' : (i : Int) < (n : Int) := by omega
      have r1 := R1.io
      have r2 := R1.ko
      rw [HNL.out] at r1 r2
      obtain ⟨g, cx, hA⟩ := own_at r1 (by omega)
      cases hA
      obtain ⟨g2, cx2, hA⟩ := own_at r2 (by omega)
      cases hA
      have p1 := (rowGet r1 hlt).1
      have p2 := (rowGet r2 hlt).1
      rw [zs_getD _ _ (by rw [HNL.out]; exact hlt)] at p1
      obtain ⟨xi, hxi⟩ : ∃ xi, ids.getD i 0 = xi := ⟨_, rfl⟩
      obtain ⟨ki, hki⟩ : ∃ ki, keys.getD i 0 = ki := ⟨_, rfl⟩
      rw [hxi] at p1
      rw [hki] at p2
      have HXI := Lib.hid hxi
      have HKI := Lib.hid hki
      clear r1 r2 R1 hxi hki
      by_cases hk1 : ki < key
      · have HNX : Hid (∀ j, j < i + 1 → keys.getD j 0 < key ∨ (keys.getD j 0 = key ∧ ids.getD j 0 < x)) := Lib.hid (fun j h => by
          by_cases e : j = i
          · rw [e, HKI.out, HXI.out]; exact .inl hk1
          · exact HLO.out j (by omega))
        go_wp2
        go_roundw
        case rel => exact ⟨i + 1, by omega, by go_num, HNX, HB⟩
        case measure => simp only [intOf]; omega
      · by_cases hk2 : ki = key
        · by_cases hx1 : xi < x
          · have HNX : Hid (∀ j, j < i + 1 → keys.getD j 0 < key ∨ (keys.getD j 0 = key ∧ ids.getD j 0 < x)) := Lib.hid (fun j h => by
              by_cases e : j = i
              · rw [e, HKI.out, HXI.out]; exact .inr ⟨hk2, hx1⟩
              · exact HLO.out j (by omega))
            have hx1' : (xi : Int) < (x : Int) := by omega
            subst hk2
            go_wp2
            go_roundw
            case rel => exact ⟨i + 1, by omega, by go_num, HNX, HB⟩
            case measure => simp only [intOf]; omega
          · have HST : Hid (i < n → ¬ (keys.getD i 0 < key ∨ (keys.getD i 0 = key ∧ ids.getD i 0 < x))) := Lib.hid (fun _ h => by rw [HKI.out, HXI.out] at h; omega)
            have hx1' : ¬ (xi : Int) < (x : Int) := by omega
            subst hk2
            obtain ⟨key, rfl⟩ : ∃ y, y = ki := ⟨_, rfl⟩
            go_wp2_with fail
            clear k1 k2 p1 p2
            obtain ⟨A, hAe⟩ : ∃ A, A = some (⟨g, 0, none⟩ : Addr) := ⟨_, rfl⟩
            obtain ⟨A2, hAe2⟩ : ∃ A, A = some (⟨g2, 0, none⟩ : Addr) := ⟨_, rfl⟩
            obtain ⟨capx, hce⟩ : ∃ c, c = cap := ⟨_, rfl⟩
            obtain ⟨capx2, hce2⟩ : ∃ c, c = cap2 := ⟨_, rfl⟩
            have HRR : Hid (Rf wr base mb most (.slice A n capx) (.slice A2 n capx2) ids keys) := Lib.hid (by rw [hAe, hAe2, hce, hce2]; exact HR.out.below HB.out)
            clear hAe hAe2 hce hce2
            obtain ⟨cap, rfl⟩ : ∃ c, c = capx := ⟨_, rfl⟩
            obtain ⟨cap2, rfl⟩ : ∃ c, c = capx2 := ⟨_, rfl⟩
            have hin : i ≤ n := by omega
            have HRF := HRR
            clear HRR
            obtain ⟨W5, hW5⟩ : ∃ x, x = wr := ⟨_, rfl⟩
            rw [← hW5] at HRF ⊢
            have HB5 : Hid (Below w.heap.size w W5) := Lib.hid (by rw [hW5]; exact HB.out)
            clear hW5 HB
            have hr5 := (own_rds' HRF.out.io).2
            rw [HNL.out] at hr5
            have HR5 := Lib.hid hr5
            clear hr5
            obtain ⟨B, hB⟩ : ∃ B, B = W5.heap.size := ⟨_, rfl⟩
            obtain ⟨S0, hS0⟩ : ∃ S0 : Nat → Prop, S0 = fun k => B ≤ k := ⟨_, rfl⟩
            have hbS : ¬ S0 mb := by rw [hS0]; have := HRF.out.mo.lt; omega
            have hAS : ∀ ad, A = some ad → ¬ S0 ad.block := fun ad e => by
              rw [hS0]
              have h1 := HRF.out.io.lt ad.block (by rw [e]; rfl)
              omega
            have hr7 := Lib.hid (HR5.out.take_ i hin)
            rw [Nat.mul_one, nums_takeI] at hr7
            have hr17 := Lib.hid (HR5.out.restI hin)
            rw [nums_dropI] at hr17
            obtain ⟨A17, hA17⟩ : ∃ A17, A17 = A.map (fun ad => if cap = i then ad else ad.add i) := ⟨_, rfl⟩
            rw [← hA17] at hr17
            have HA17 := Lib.hid hA17
            have hAS17 : ∀ ad, A17 = some ad → ¬ S0 ad.block := fun ad e => by
              rw [hA17] at e
              cases hAA : A with
              | none => rw [hAA] at e; cases e
              | some ad0 =>
                rw [hAA] at e
                have h2 := hAS ad0 hAA
                have h3 : (if cap = i then ad0 else ad0.add i) = ad := by simpa using e
                rw [← h3]
                split
                · exact h2
                · have h4 : (ad0.add i).block = ad0.block := by unfold Addr.add; split <;> rfl
                  rw [h4]
                  exact h2
            clear hA17
            have hcapn : n ≤ cap := HR5.out.le
            have hbx := HRF.out.ib
            obtain ⟨G, hG⟩ : ∃ G : Option Value → Option Value → Option Value → Option Value → Option Value → World → Prop, ∀ xx aa ll dd ee W, G xx aa ll dd ee W = (((aa.isSome = true → xx.isSome = true) ∧ (dd.isSome = true → aa.isSome = true ∧ ll.isSome = true) ∧ (ee.isSome = true → dd.isSome = true)) ∧ (ee = none → Ch2 3 1 B i 1 (nums .i64 ((zs ids).take i)) [.int .i64 (x : Nat)] xx aa ll dd W) ∧ Chg S0 W5 W ∧ B ≤ W.heap.size ∧ (∀ u, ee = some u → W.ownsRow B 3 1 u (i + 1 + (n - i)) (nums .i64 ((zs ids).take i) ++ [.int .i64 (x : Nat)] ++ nums .i64 ((zs ids).drop i)))) := ⟨_, fun _ _ _ _ _ _ => rfl⟩
            obtain ⟨S_, hS_⟩ : ∃ S_ : World → World → Prop, S_ = (Chg S0) := ⟨_, rfl⟩
            have hR_ : ∀ W, S_ W W := by intro W; rw [hS_]; exact Chg.refl _ _
            obtain ⟨T, hT⟩ : ∃ T : Nat → FactS S_, ∀ t_, T t_ = ([FactS.eq (.pointer (some ⟨mb, 0, none⟩)), FactS.any, FactS.eq (.pointer (some ⟨mb, 0, none⟩)), FactS.eq (.pointer (some ⟨mb, 0, none⟩)), FactS.eq (.pointer (some ⟨mb, 1, none⟩)), FactS.eq (.slice A n cap), FactS.eq (.int .i64 i), FactS.eq (.slice A i cap), FactS.any, FactS.eq (.int .i64 (x : Nat)), FactS.any, FactS.any, FactS.eq (.pointer (some ⟨mb, 0, none⟩)), FactS.eq (.pointer (some ⟨mb, 0, none⟩)), FactS.eq (.pointer (some ⟨mb, 1, none⟩)), FactS.eq (.slice A n cap), FactS.eq (.int .i64 i), FactS.eq (.slice A17 (n - i) (cap - i)), FactS.any, FactS.eq (.pointer (some ⟨mb, 0, none⟩)), FactS.eq (.pointer (some ⟨mb, 1, none⟩)), FactS.eq (undef)] : List (FactS S_)).getD t_ FactS.any := ⟨_, fun _ => rfl⟩
            have hP_ : ∀ i_ v_ (y_ : Nat → Option Value) W_, ([1, 8, 10, 11, 18].contains i_) = false → G (y_ 1) (y_ 8) (y_ 10) (y_ 11) (y_ 18) W_ → G (updY y_ i_ v_ 1) (updY y_ i_ v_ 8) (updY y_ i_ v_ 10) (updY y_ i_ v_ 11) (updY y_ i_ v_ 18) W_ := by
              intro i_ v_ y_ W_ hi_ h_
              simp only [List.contains_cons, List.contains_nil, Bool.or_false, Bool.or_eq_false_iff, beq_eq_false_iff_ne, ne_eq] at hi_
              obtain ⟨i1_, i8_, i10_, i11_, i18_⟩ := hi_
              rw [updY_ne y_ i_ v_ i1_, updY_ne y_ i_ v_ i8_, updY_ne y_ i_ v_ i10_, updY_ne y_ i_ v_ i11_, updY_ne y_ i_ v_ i18_]
              exact h_
            refine region_tabU 21 [(0, 49), (1, 50), (2, 51), (3, 52), (4, 53), (5, 54), (6, 55), (7, 56), (8, 57), (9, 58), (10, 59), (11, 60), (12, 61), (13, 62), (14, 63), (15, 64), (16, 65), (17, 66), (18, 67), (19, 68), (20, 69)] T (fun y_ W_ => G (y_ 1) (y_ 8) (y_ 10) (y_ 11) (y_ 18) W_) (by kernel_rfl) (by kernel_rfl) (by kernel_rfl) (by kernel_rfl) (by kernel_rfl) (by kernel_rfl) (by kernel_rfl) ?_ ?_ ?_
            · skip
              show G none none none none none _
              rw [hG]
              exact ⟨⟨(fun h => by cases h), (fun h => by cases h), (fun h => by cases h)⟩, fun _ => Ch2.none_ (by rw [hB]; simp), (Chg.refl _ _).drewN 1, by rw [hB]; simp, fun u e => by cases e⟩
            · skip
              refine stepsAll_cons (k := 0) ?_ ?_
              · intro fa fx fW fy hF hN hJ hE K fK
                have hJ : G (fy 1) (fy 8) (fy 10) (fy 11) (fy 18) fW := hJ
                have ev0 : fa.tmps[0]?.getD undef = .pointer (some ⟨mb, 0, none⟩) := hF.eo 0 (by kernel_rfl)
                refine wpOp_val rfl (wanted_none rfl) ?_ (fK (.pointer (some ⟨mb, 0, none⟩)) fW (hR_ fW) (by rw [hT]; exact rfl) (hP_ 0 _ fy fW rfl hJ))
                clear fK hE hF hJ hN
                go_simp
              refine stepsAll_cons (k := 1) ?_ ?_
              · intro fa fx fW fy hF hN hJ hE K fK
                have hJ : G (fy 1) (fy 8) (fy 10) (fy 11) (fy 18) fW := hJ
                rw [hG, hN] at hJ
                obtain ⟨⟨i1, i2, i3⟩, j1, j2, j3, j4⟩ := hJ
                have a8 : fy 8 = none := by cases h : fy 8 with | none => rfl | some u => rw [h] at i1; exact absurd (i1 rfl) (by simp)
                have a11 : fy 11 = none := by cases h : fy 11 with | none => rfl | some u => rw [h, a8] at i2; exact absurd (i2 rfl).1 (by simp)
                have a18 : fy 18 = none := by cases h : fy 18 with | none => rfl | some u => rw [h, a11] at i3; exact absurd (i3 rfl) (by simp)
                have k1 := j1 a18
                rw [a8, a11] at k1
                have hal : Below fW.heap.size fW (fW.alloc (.cells #[] 3)) := below_al (Below.refl _ _) _
                refine wpOp_to rfl (wanted_none rfl) (v := .slice (some ⟨fW.heap.size, 0, none⟩) 0 0) (W' := fW.alloc (.cells #[] 3)) (by clear fK hE hF hN i1 i2 i3 j1 j2 j3 j4 k1; go_simp) (fK _ _ (by rw [hS_]; exact Chg.of_below hal) (by rw [hT]; exact trivial) ?_)
                show G (some _) (fy 8) (fy 10) (fy 11) (fy 18) _
                rw [hG, a8, a11, a18]
                exact ⟨⟨(fun h => by cases h), (fun h => by cases h), (fun h => by cases h)⟩, fun _ => k1.x_, j2.trans (Chg.of_below hal), Nat.le_trans j3 hal.size, fun u e => by cases e⟩
              refine stepsAll_cons (k := 2) ?_ ?_
              · intro fa fx fW fy hF hN hJ hE K fK
                have hJ : G (fy 1) (fy 8) (fy 10) (fy 11) (fy 18) fW := hJ
                have ev0 : fa.tmps[0]?.getD undef = .pointer (some ⟨mb, 0, none⟩) := hF.eo 0 (by kernel_rfl)
                refine wpOp_val rfl (wanted_none rfl) ?_ (fK (.pointer (some ⟨mb, 0, none⟩)) fW (hR_ fW) (by rw [hT]; exact rfl) (hP_ 2 _ fy fW rfl hJ))
                clear fK hE hF hJ hN
                go_simp
              refine stepsAll_cons (k := 3) ?_ ?_
              · intro fa fx fW fy hF hN hJ hE K fK
                have hJ : G (fy 1) (fy 8) (fy 10) (fy 11) (fy 18) fW := hJ
                have q2 : fx 2 = .pointer (some ⟨mb, 0, none⟩) := by have q := (hE ⟨2, .data⟩ (by simp) rfl).2; rw [hT] at q; exact q
                have ev51 : fa.tmps[51]?.getD undef = .pointer (some ⟨mb, 0, none⟩) := (hF.ev 2 51 (by kernel_rfl)).trans q2
                refine wpOp_val rfl (wanted_none rfl) ?_ (fK (.pointer (some ⟨mb, 0, none⟩)) fW (hR_ fW) (by rw [hT]; exact rfl) (hP_ 3 _ fy fW rfl hJ))
                clear fK hE hF hJ hN
                go_simp
              refine stepsAll_cons (k := 4) ?_ ?_
              · intro fa fx fW fy hF hN hJ hE K fK
                have hJ : G (fy 1) (fy 8) (fy 10) (fy 11) (fy 18) fW := hJ
                have q3 : fx 3 = .pointer (some ⟨mb, 0, none⟩) := by have q := (hE ⟨3, .data⟩ (by simp) rfl).2; rw [hT] at q; exact q
                have ev52 : fa.tmps[52]?.getD undef = .pointer (some ⟨mb, 0, none⟩) := (hF.ev 3 52 (by kernel_rfl)).trans q3
                refine wpOp_val rfl (wanted_none rfl) ?_ (fK (.pointer (some ⟨mb, 1, none⟩)) fW (hR_ fW) (by rw [hT]; exact rfl) (hP_ 4 _ fy fW rfl hJ))
                clear fK hE hF hJ hN
                go_simp
              refine stepsAll_cons (k := 5) ?_ ?_
              · intro fa fx fW fy hF hN hJ hE K fK
                have hJ : G (fy 1) (fy 8) (fy 10) (fy 11) (fy 18) fW := hJ
                have q4 : fx 4 = .pointer (some ⟨mb, 1, none⟩) := by have q := (hE ⟨4, .data⟩ (by simp) rfl).2; rw [hT] at q; exact q
                have ev53 : fa.tmps[53]?.getD undef = .pointer (some ⟨mb, 1, none⟩) := (hF.ev 4 53 (by kernel_rfl)).trans q4
                have hJ1 := hJ
                rw [hG] at hJ1
                have k0 := (hbx.keep hJ1.2.2.1 hbS).cell
                clear hJ1
                refine wpOp_val rfl (wanted_none rfl) ?_ (fK (.slice A n cap) fW (hR_ fW) (by rw [hT]; exact rfl) (hP_ 5 _ fy fW rfl hJ))
                clear fK hE hF hJ hN
                go_simp
              refine stepsAll_cons (k := 6) ?_ ?_
              · intro fa fx fW fy hF hN hJ hE K fK
                have hJ : G (fy 1) (fy 8) (fy 10) (fy 11) (fy 18) fW := hJ
                have ev6 : fa.tmps[6]?.getD undef = .int .i64 i := hF.eo 6 (by kernel_rfl)
                refine wpOp_val rfl (wanted_none rfl) ?_ (fK (.int .i64 i) fW (hR_ fW) (by rw [hT]; exact rfl) (hP_ 6 _ fy fW rfl hJ))
                clear fK hE hF hJ hN
                go_simp
              refine stepsAll_cons (k := 7) ?_ ?_
              · intro fa fx fW fy hF hN hJ hE K fK
                have hJ : G (fy 1) (fy 8) (fy 10) (fy 11) (fy 18) fW := hJ
                have q5 : fx 5 = .slice A n cap := by have q := (hE ⟨5, .data⟩ (by simp) rfl).2; rw [hT] at q; exact q
                have q6 : fx 6 = .int .i64 i := by have q := (hE ⟨6, .data⟩ (by simp) rfl).2; rw [hT] at q; exact q
                have ev54 : fa.tmps[54]?.getD undef = .slice A n cap := (hF.ev 5 54 (by kernel_rfl)).trans q5
                have ev55 : fa.tmps[55]?.getD undef = .int .i64 i := (hF.ev 6 55 (by kernel_rfl)).trans q6
                refine wpOp_val rfl (wanted_none rfl) ?_ (fK (.slice A i cap) fW (hR_ fW) (by rw [hT]; exact rfl) (hP_ 7 _ fy fW rfl hJ))
                clear fK hE hF hJ hN
                rcases A with _ | ad0
                · obtain ⟨e1, e2, _⟩ := HR5.out.nil_n
                  subst e1
                  subst e2
                  obtain rfl : i = 0 := by omega
                  go_simp
                · go_simp
                  all_goals first | omega | (intro h; omega)
              refine stepsAll_cons (k := 8) ?_ ?_
              · intro fa fx fW fy hF hN hJ hE K fK
                have hJ : G (fy 1) (fy 8) (fy 10) (fy 11) (fy 18) fW := hJ
                have q1 : (FactS.any : FactS S_).p (fx 1) fW := by have q := (hE ⟨1, .data⟩ (by simp) rfl).2; rw [hT] at q; exact q
                have y1 : fy 1 = some (fx 1) := (hE ⟨1, .data⟩ (by simp) rfl).1
                have q7 : fx 7 = .slice A i cap := by have q := (hE ⟨7, .data⟩ (by simp) rfl).2; rw [hT] at q; exact q
                have ev50 : fa.tmps[50]?.getD undef = fx 1 := hF.ev 1 50 (by kernel_rfl)
                have ev56 : fa.tmps[56]?.getD undef = .slice A i cap := (hF.ev 7 56 (by kernel_rfl)).trans q7
                rw [hG, hN, y1] at hJ
                obtain ⟨⟨i1, i2, i3⟩, j1, j2, j3, j4⟩ := hJ
                have a11 : fy 11 = none := by cases h : fy 11 with | none => rfl | some u => rw [h] at i2; exact absurd (i2 rfl).1 (by simp)
                have a18 : fy 18 = none := by cases h : fy 18 with | none => rfl | some u => rw [h, a11] at i3; exact absurd (i3 rfl) (by simp)
                have k1 := j1 a18
                rw [a11] at k1
                have ho := k1.hx _ rfl rfl
                have hrA := j2.rds hr7.out hAS
                refine wpOp_list rfl (apn (w0 := fW) B rfl _ _ 22 3 _ 1 8 (by rfl) Try.underlying22 info_hint rfl (by decide) (by decide) (fx 1) 0 [] _ i cap (nums .i64 ((zs ids).take i)) (by clear fK hE hF hN i1 i2 i3 j1 j2 j3 j4 k1; go_simp) (by clear fK hE hF hN i1 i2 i3 j1 j2 j3 j4 k1; go_simp) hrA (nums_one _ _) ho (Below.refl _ _) k1.hB (by omega) ?_)
                intro v1 w1 p1 p2 p3 p4
                rw [Nat.zero_add, List.nil_append] at p1
                have hch : Chg S0 fW w1 := Chg.of_grown p3 (fun k e => by rw [hS0]; exact own_base ho k e)
                refine fK _ _ (by rw [hS_]; exact hch) (by rw [hT]; exact trivial) ?_
                show G (fy 1) (some v1) (fy 10) (fy 11) (fy 18) w1
                rw [hG, a11, a18, y1]
                exact ⟨⟨(fun _ => rfl), (fun h => by cases h), (fun h => by cases h)⟩, fun _ => k1.a_ p1 p3 p4, j2.trans hch, Nat.le_trans j3 hch.size, fun u e => by cases e⟩
              refine stepsAll_cons (k := 9) ?_ ?_
              · intro fa fx fW fy hF hN hJ hE K fK
                have hJ : G (fy 1) (fy 8) (fy 10) (fy 11) (fy 18) fW := hJ
                have ev1 : fa.tmps[1]?.getD undef = .int .i64 (x : Nat) := hF.eo 1 (by kernel_rfl)
                refine wpOp_val rfl (wanted_none rfl) ?_ (fK (.int .i64 (x : Nat)) fW (hR_ fW) (by rw [hT]; exact rfl) (hP_ 9 _ fy fW rfl hJ))
                clear fK hE hF hJ hN
                go_simp
              refine stepsAll_cons (k := 10) ?_ ?_
              · intro fa fx fW fy hF hN hJ hE K fK
                have hJ : G (fy 1) (fy 8) (fy 10) (fy 11) (fy 18) fW := hJ
                have q9 : fx 9 = .int .i64 (x : Nat) := by have q := (hE ⟨9, .data⟩ (by simp) rfl).2; rw [hT] at q; exact q
                have ev58 : fa.tmps[58]?.getD undef = .int .i64 (x : Nat) := (hF.ev 9 58 (by kernel_rfl)).trans q9
                rw [hG, hN] at hJ
                obtain ⟨⟨i1, i2, i3⟩, j1, j2, j3, j4⟩ := hJ
                have a11 : fy 11 = none := by cases h : fy 11 with | none => rfl | some u => rw [h] at i2; exact absurd (i2 rfl).2 (by simp)
                have a18 : fy 18 = none := by cases h : fy 18 with | none => rfl | some u => rw [h, a11] at i3; exact absurd (i3 rfl) (by simp)
                have k1 := j1 a18
                rw [a11] at k1
                have hal : Below fW.heap.size fW (fW.alloc (.cells [.int .i64 (x : Nat)].toArray 3)) := below_al (Below.refl _ _) _
                refine wpOp_to rfl (wanted_none rfl) (v := .slice (some ⟨fW.heap.size, 0, none⟩) 1 1) (W' := fW.alloc (.cells [.int .i64 (x : Nat)].toArray 3)) (by clear fK hE hF hN i1 i2 i3 j1 j2 j3 j4 k1; go_simp) (fK _ _ (by rw [hS_]; exact Chg.of_below hal) (by rw [hT]; exact trivial) ?_)
                show G (fy 1) (fy 8) (some _) (fy 11) (fy 18) _
                rw [hG, a11, a18]
                exact ⟨⟨i1, (fun h => by cases h), (fun h => by cases h)⟩, fun _ => k1.l_ rfl, j2.trans (Chg.of_below hal), Nat.le_trans j3 hal.size, fun u e => by cases e⟩
              refine stepsAll_cons (k := 11) ?_ ?_
              · intro fa fx fW fy hF hN hJ hE K fK
                have hJ : G (fy 1) (fy 8) (fy 10) (fy 11) (fy 18) fW := hJ
                have q8 : (FactS.any : FactS S_).p (fx 8) fW := by have q := (hE ⟨8, .data⟩ (by simp) rfl).2; rw [hT] at q; exact q
                have y8 : fy 8 = some (fx 8) := (hE ⟨8, .data⟩ (by simp) rfl).1
                have q10 : (FactS.any : FactS S_).p (fx 10) fW := by have q := (hE ⟨10, .data⟩ (by simp) rfl).2; rw [hT] at q; exact q
                have y10 : fy 10 = some (fx 10) := (hE ⟨10, .data⟩ (by simp) rfl).1
                have ev57 : fa.tmps[57]?.getD undef = fx 8 := hF.ev 8 57 (by kernel_rfl)
                have ev59 : fa.tmps[59]?.getD undef = fx 10 := hF.ev 10 59 (by kernel_rfl)
                rw [hG, hN, y8, y10] at hJ
                obtain ⟨⟨i1, i2, i3⟩, j1, j2, j3, j4⟩ := hJ
                have a18 : fy 18 = none := by cases h : fy 18 with | none => rfl | some u => rw [h] at i3; exact absurd (i3 rfl) (by simp)
                have k1 := j1 a18
                have ho := k1.ha _ rfl rfl
                obtain ⟨gl, hl1, hl2, hl3, _, _⟩ := k1.hl _ rfl rfl
                refine wpOp_list rfl (apn (w0 := fW) B rfl _ _ 22 3 _ 1 8 (by rfl) Try.underlying22 info_hint rfl (by decide) (by decide) (fx 8) i (nums .i64 ((zs ids).take i)) (some ⟨gl, 0, none⟩) 1 1 [.int .i64 (x : Nat)] (by clear fK hE hF hN i1 i2 i3 j1 j2 j3 j4 k1; go_simp) (by clear fK hE hF hN i1 i2 i3 j1 j2 j3 j4 k1; rw [hl1] at ev59; go_simp) hl3 (by intro u hu; simp at hu; subst hu; rfl) ho (Below.refl _ _) k1.hB (by omega) ?_)
                intro v1 w1 p1 p2 p3 p4
                have hch : Chg S0 fW w1 := Chg.of_grown p3 (fun k e => by rw [hS0]; exact own_base ho k e)
                refine fK _ _ (by rw [hS_]; exact hch) (by rw [hT]; exact trivial) ?_
                show G (fy 1) (fy 8) (fy 10) (some v1) (fy 18) w1
                rw [hG, a18, y8, y10]
                exact ⟨⟨(fun _ => i1 rfl), (fun _ => ⟨rfl, rfl⟩), (fun h => by cases h)⟩, fun _ => k1.d_ hch.size p1, j2.trans hch, Nat.le_trans j3 hch.size, fun u e => by cases e⟩
              refine stepsAll_cons (k := 12) ?_ ?_
              · intro fa fx fW fy hF hN hJ hE K fK
                have hJ : G (fy 1) (fy 8) (fy 10) (fy 11) (fy 18) fW := hJ
                have ev0 : fa.tmps[0]?.getD undef = .pointer (some ⟨mb, 0, none⟩) := hF.eo 0 (by kernel_rfl)
                refine wpOp_val rfl (wanted_none rfl) ?_ (fK (.pointer (some ⟨mb, 0, none⟩)) fW (hR_ fW) (by rw [hT]; exact rfl) (hP_ 12 _ fy fW rfl hJ))
                clear fK hE hF hJ hN
                go_simp
              refine stepsAll_cons (k := 13) ?_ ?_
              · intro fa fx fW fy hF hN hJ hE K fK
                have hJ : G (fy 1) (fy 8) (fy 10) (fy 11) (fy 18) fW := hJ
                have q12 : fx 12 = .pointer (some ⟨mb, 0, none⟩) := by have q := (hE ⟨12, .data⟩ (by simp) rfl).2; rw [hT] at q; exact q
                have ev61 : fa.tmps[61]?.getD undef = .pointer (some ⟨mb, 0, none⟩) := (hF.ev 12 61 (by kernel_rfl)).trans q12
                refine wpOp_val rfl (wanted_none rfl) ?_ (fK (.pointer (some ⟨mb, 0, none⟩)) fW (hR_ fW) (by rw [hT]; exact rfl) (hP_ 13 _ fy fW rfl hJ))
                clear fK hE hF hJ hN
                go_simp
              refine stepsAll_cons (k := 14) ?_ ?_
              · intro fa fx fW fy hF hN hJ hE K fK
                have hJ : G (fy 1) (fy 8) (fy 10) (fy 11) (fy 18) fW := hJ
                have q13 : fx 13 = .pointer (some ⟨mb, 0, none⟩) := by have q := (hE ⟨13, .data⟩ (by simp) rfl).2; rw [hT] at q; exact q
                have ev62 : fa.tmps[62]?.getD undef = .pointer (some ⟨mb, 0, none⟩) := (hF.ev 13 62 (by kernel_rfl)).trans q13
                refine wpOp_val rfl (wanted_none rfl) ?_ (fK (.pointer (some ⟨mb, 1, none⟩)) fW (hR_ fW) (by rw [hT]; exact rfl) (hP_ 14 _ fy fW rfl hJ))
                clear fK hE hF hJ hN
                go_simp
              refine stepsAll_cons (k := 15) ?_ ?_
              · intro fa fx fW fy hF hN hJ hE K fK
                have hJ : G (fy 1) (fy 8) (fy 10) (fy 11) (fy 18) fW := hJ
                have q14 : fx 14 = .pointer (some ⟨mb, 1, none⟩) := by have q := (hE ⟨14, .data⟩ (by simp) rfl).2; rw [hT] at q; exact q
                have ev63 : fa.tmps[63]?.getD undef = .pointer (some ⟨mb, 1, none⟩) := (hF.ev 14 63 (by kernel_rfl)).trans q14
                have hJ1 := hJ
                rw [hG] at hJ1
                have k0 := (hbx.keep hJ1.2.2.1 hbS).cell
                clear hJ1
                refine wpOp_val rfl (wanted_none rfl) ?_ (fK (.slice A n cap) fW (hR_ fW) (by rw [hT]; exact rfl) (hP_ 15 _ fy fW rfl hJ))
                clear fK hE hF hJ hN
                go_simp
              refine stepsAll_cons (k := 16) ?_ ?_
              · intro fa fx fW fy hF hN hJ hE K fK
                have hJ : G (fy 1) (fy 8) (fy 10) (fy 11) (fy 18) fW := hJ
                have ev6 : fa.tmps[6]?.getD undef = .int .i64 i := hF.eo 6 (by kernel_rfl)
                refine wpOp_val rfl (wanted_none rfl) ?_ (fK (.int .i64 i) fW (hR_ fW) (by rw [hT]; exact rfl) (hP_ 16 _ fy fW rfl hJ))
                clear fK hE hF hJ hN
                go_simp
              refine stepsAll_cons (k := 17) ?_ ?_
              · intro fa fx fW fy hF hN hJ hE K fK
                have hJ : G (fy 1) (fy 8) (fy 10) (fy 11) (fy 18) fW := hJ
                have q15 : fx 15 = .slice A n cap := by have q := (hE ⟨15, .data⟩ (by simp) rfl).2; rw [hT] at q; exact q
                have q16 : fx 16 = .int .i64 i := by have q := (hE ⟨16, .data⟩ (by simp) rfl).2; rw [hT] at q; exact q
                have ev64 : fa.tmps[64]?.getD undef = .slice A n cap := (hF.ev 15 64 (by kernel_rfl)).trans q15
                have ev65 : fa.tmps[65]?.getD undef = .int .i64 i := (hF.ev 16 65 (by kernel_rfl)).trans q16
                refine wpOp_val rfl (wanted_none rfl) ?_ (fK (.slice A17 (n - i) (cap - i)) fW (hR_ fW) (by rw [hT]; exact rfl) (hP_ 17 _ fy fW rfl hJ))
                clear fK hE hF hJ hN
                rw [HA17.out]
                rcases A with _ | ad0
                · obtain ⟨e1, e2, _⟩ := HR5.out.nil_n
                  subst e1
                  subst e2
                  obtain rfl : i = 0 := by omega
                  go_simp
                · go_simp
                  by_cases hcc : cap = i <;> simp [hcc]
              refine stepsAll_cons (k := 18) ?_ ?_
              · intro fa fx fW fy hF hN hJ hE K fK
                have hJ : G (fy 1) (fy 8) (fy 10) (fy 11) (fy 18) fW := hJ
                have q11 : (FactS.any : FactS S_).p (fx 11) fW := by have q := (hE ⟨11, .data⟩ (by simp) rfl).2; rw [hT] at q; exact q
                have y11 : fy 11 = some (fx 11) := (hE ⟨11, .data⟩ (by simp) rfl).1
                have q17 : fx 17 = .slice A17 (n - i) (cap - i) := by have q := (hE ⟨17, .data⟩ (by simp) rfl).2; rw [hT] at q; exact q
                have ev60 : fa.tmps[60]?.getD undef = fx 11 := hF.ev 11 60 (by kernel_rfl)
                have ev66 : fa.tmps[66]?.getD undef = .slice A17 (n - i) (cap - i) := (hF.ev 17 66 (by kernel_rfl)).trans q17
                rw [hG, hN, y11] at hJ
                obtain ⟨⟨i1, i2, i3⟩, j1, j2, j3, j4⟩ := hJ
                have k1 := j1 rfl
                have ho := k1.hd _ rfl
                have hrA := j2.rds hr17.out hAS17
                refine wpOp_list rfl (apn (w0 := fW) B rfl _ _ 22 3 _ 1 8 (by rfl) Try.underlying22 info_hint rfl (by decide) (by decide) (fx 11) (i + 1) (nums .i64 ((zs ids).take i) ++ [.int .i64 (x : Nat)]) A17 (n - i) (cap - i) (nums .i64 ((zs ids).drop i)) (by clear fK hE hF hN i1 i2 i3 j1 j2 j3 j4 k1; go_simp) (by clear fK hE hF hN i1 i2 i3 j1 j2 j3 j4 k1; go_simp) hrA (nums_one _ _) ho (Below.refl _ _) k1.hB (by omega) ?_)
                intro v1 w1 p1 p2 p3 p4
                have hch : Chg S0 fW w1 := Chg.of_grown p3 (fun k e => by rw [hS0]; exact own_base ho k e)
                refine fK _ _ (by rw [hS_]; exact hch) (by rw [hT]; exact trivial) ?_
                show G (fy 1) (fy 8) (fy 10) (fy 11) (some v1) w1
                rw [hG, y11]
                exact ⟨⟨i1, (fun _ => i2 rfl), (fun _ => rfl)⟩, (fun e => by cases e), j2.trans hch, Nat.le_trans j3 hch.size, fun u e => by cases e; exact p1⟩
              refine stepsAll_cons (k := 19) ?_ ?_
              · intro fa fx fW fy hF hN hJ hE K fK
                have hJ : G (fy 1) (fy 8) (fy 10) (fy 11) (fy 18) fW := hJ
                have q0 : fx 0 = .pointer (some ⟨mb, 0, none⟩) := by have q := (hE ⟨0, .data⟩ (by simp) rfl).2; rw [hT] at q; exact q
                have ev49 : fa.tmps[49]?.getD undef = .pointer (some ⟨mb, 0, none⟩) := (hF.ev 0 49 (by kernel_rfl)).trans q0
                refine wpOp_val rfl (wanted_none rfl) ?_ (fK (.pointer (some ⟨mb, 0, none⟩)) fW (hR_ fW) (by rw [hT]; exact rfl) (hP_ 19 _ fy fW rfl hJ))
                clear fK hE hF hJ hN
                go_simp
              refine stepsAll_cons (k := 20) ?_ ?_
              · intro fa fx fW fy hF hN hJ hE K fK
                have hJ : G (fy 1) (fy 8) (fy 10) (fy 11) (fy 18) fW := hJ
                have q19 : fx 19 = .pointer (some ⟨mb, 0, none⟩) := by have q := (hE ⟨19, .data⟩ (by simp) rfl).2; rw [hT] at q; exact q
                have ev68 : fa.tmps[68]?.getD undef = .pointer (some ⟨mb, 0, none⟩) := (hF.ev 19 68 (by kernel_rfl)).trans q19
                refine wpOp_val rfl (wanted_none rfl) ?_ (fK (.pointer (some ⟨mb, 1, none⟩)) fW (hR_ fW) (by rw [hT]; exact rfl) (hP_ 20 _ fy fW rfl hJ))
                clear fK hE hF hJ hN
                go_simp
              exact stepsAll_nil
            intro fa fx fW fy hF hJ0 hx
            have y1 : fy 1 = some (fx 1) := (hx 1 (by decide)).1
            have y8 : fy 8 = some (fx 8) := (hx 8 (by decide)).1
            have y10 : fy 10 = some (fx 10) := (hx 10 (by decide)).1
            have y11 : fy 11 = some (fx 11) := (hx 11 (by decide)).1
            have y18 : fy 18 = some (fx 18) := (hx 18 (by decide)).1
            have hJ : G (fy 1) (fy 8) (fy 10) (fy 11) (fy 18) fW := hJ0
            clear hJ0
            rw [y1, y8, y10, y11, y18] at hJ
            have q18 : (FactS.any : FactS S_).p (fx 18) fW := by have q := (hx 18 (by decide)).2; rw [hT] at q; exact q
            have ev67 : fa.tmps[67]?.getD undef = fx 18 := hF.ev 18 67 (by kernel_rfl)
            have q20 : fx 20 = .pointer (some ⟨mb, 1, none⟩) := by have q := (hx 20 (by decide)).2; rw [hT] at q; exact q
            have ev69 : fa.tmps[69]?.getD undef = .pointer (some ⟨mb, 1, none⟩) := (hF.ev 20 69 (by kernel_rfl)).trans q20
            rw [hG] at hJ
            obtain ⟨_, _, jc, jb, jo⟩ := hJ
            have ho := jo _ rfl
            have hbz := hbx.keep jc hbS
            have c0 := hbz.cell
            have f0 := hbz.free
            obtain ⟨Ae, ce, hse⟩ := own_slice ho
            refine wpOp_fin rfl (wanted_none rfl) rfl (W' := fW.setCell ⟨mb, 1, none⟩ (fx 18)) ?_ ?_
            · clear hF hx
              rw [hse] at ev67 ⊢
              go_simp
            refine tail_end ?_
            rw [hF.eq]
            clear hF hx hT T hP_ hR_ y1 y8 y10 y11 y18
            simp only [putAll, Act.put, List.setIfInBounds_toArray, List.set_cons_zero, List.set_cons_succ, ]
            have hbel : Below W5.heap.size W5 fW := jc.toBelow (Below.refl _ _) (Nat.le_refl _) (fun k e => by rw [hS0] at e; omega)
            obtain ⟨s0, s1, s2, s3, s4, s5, s6⟩ := rf_set1 HNL.out HRF.out hbel hB ho
            have HLB := Lib.hid HRF.out.lb
            have HC6 : Hid (Chg (fun k => k = mb) w (fW.setCell ⟨mb, 1, none⟩ (fx 18))) := (Chg.of_below (below_then HB5.out HB5.out.size hbel)).setCell _ _ _ rfl
            have HU1 : Hid (∀ k, (fx 18).ownBlock = some k → w.heap.size ≤ k) := Lib.hid (fun k e => Nat.le_trans HB5.out.size (s6 k e))
            obtain ⟨u1, hu1⟩ : ∃ u, u = fx 18 := ⟨_, rfl⟩
            rw [← hu1] at s0 s1 s2 s3 s4 s5 HC6 HU1 ⊢
            have HS0 := Lib.hid s0
            have HS1 := Lib.hid s1
            have HS2 := Lib.hid s2
            have HS3 := Lib.hid s3
            have HS4 := Lib.hid s4
            have HS5 := Lib.hid s5
            clear s0 s1 s2 s3 s4 s5 s6 hbel ho jc jb jo hbz c0 f0 hse hu1 hbx hcapn hAS hAS17 hr7 hr17 HA17 hbS HR5 HRF HB5
            generalize fW.setCell ⟨mb, 1, none⟩ u1 = W6 at HS0 HS1 HS2 HS3 HS4 HC6 ⊢
            clear hB hS0 hG
            obtain ⟨W5, rfl⟩ : ∃ x, x = W6 := ⟨_, rfl⟩
            have HRF : Hid (Rk W5 base mb most (.slice A2 n cap2) n keys) := Lib.hid ⟨HS0.out, HS2.out, HS4.out⟩
            go_wp2_with fail
            have hr5 := (own_rds' HRF.out.ko).2
            have HR5 := Lib.hid hr5
            clear hr5
            obtain ⟨B, hB⟩ : ∃ B, B = W5.heap.size := ⟨_, rfl⟩
            obtain ⟨S0, hS0⟩ : ∃ S0 : Nat → Prop, S0 = fun k => B ≤ k := ⟨_, rfl⟩
            have hbS : ¬ S0 mb := by rw [hS0]; have := HRF.out.mo.lt; omega
            have hAS : ∀ ad, A2 = some ad → ¬ S0 ad.block := fun ad e => by
              rw [hS0]
              have h1 := HRF.out.ko.lt ad.block (by rw [e]; rfl)
              omega
            have hr7 := Lib.hid (HR5.out.take_ i hin)
            rw [Nat.mul_one, nums_takeI] at hr7
            have hr17 := Lib.hid (HR5.out.restI hin)
            rw [nums_dropI] at hr17
            obtain ⟨A17, hA17⟩ : ∃ A17, A17 = A2.map (fun ad => if cap2 = i then ad else ad.add i) := ⟨_, rfl⟩
            rw [← hA17] at hr17
            have HA17 := Lib.hid hA17
            have hAS17 : ∀ ad, A17 = some ad → ¬ S0 ad.block := fun ad e => by
              rw [hA17] at e
              cases hAA : A2 with
              | none => rw [hAA] at e; cases e
              | some ad0 =>
                rw [hAA] at e
                have h2 := hAS ad0 hAA
                have h3 : (if cap2 = i then ad0 else ad0.add i) = ad := by simpa using e
                rw [← h3]
                split
                · exact h2
                · have h4 : (ad0.add i).block = ad0.block := by unfold Addr.add; split <;> rfl
                  rw [h4]
                  exact h2
            clear hA17
            have hcapn : n ≤ cap2 := HR5.out.le
            have hbx := HRF.out.kb
            obtain ⟨G, hG⟩ : ∃ G : Option Value → Option Value → Option Value → Option Value → Option Value → World → Prop, ∀ xx aa ll dd ee W, G xx aa ll dd ee W = (((aa.isSome = true → xx.isSome = true) ∧ (dd.isSome = true → aa.isSome = true ∧ ll.isSome = true) ∧ (ee.isSome = true → dd.isSome = true)) ∧ (ee = none → Ch2 3 1 B i 1 (nums .i64 (keys.take i)) [.int .i64 key] xx aa ll dd W) ∧ Chg S0 W5 W ∧ B ≤ W.heap.size ∧ (∀ u, ee = some u → W.ownsRow B 3 1 u (i + 1 + (n - i)) (nums .i64 (keys.take i) ++ [.int .i64 key] ++ nums .i64 (keys.drop i)))) := ⟨_, fun _ _ _ _ _ _ => rfl⟩
            obtain ⟨S_, hS_⟩ : ∃ S_ : World → World → Prop, S_ = (Chg S0) := ⟨_, rfl⟩
            have hR_ : ∀ W, S_ W W := by intro W; rw [hS_]; exact Chg.refl _ _
            obtain ⟨T, hT⟩ : ∃ T : Nat → FactS S_, ∀ t_, T t_ = ([FactS.eq (.pointer (some ⟨mb, 0, none⟩)), FactS.any, FactS.eq (.pointer (some ⟨mb, 0, none⟩)), FactS.eq (.pointer (some ⟨mb, 0, none⟩)), FactS.eq (.pointer (some ⟨mb, 2, none⟩)), FactS.eq (.slice A2 n cap2), FactS.eq (.int .i64 i), FactS.eq (.slice A2 i cap2), FactS.any, FactS.eq (.int .i64 key), FactS.any, FactS.any, FactS.eq (.pointer (some ⟨mb, 0, none⟩)), FactS.eq (.pointer (some ⟨mb, 0, none⟩)), FactS.eq (.pointer (some ⟨mb, 2, none⟩)), FactS.eq (.slice A2 n cap2), FactS.eq (.int .i64 i), FactS.eq (.slice A17 (n - i) (cap2 - i)), FactS.any, FactS.eq (.pointer (some ⟨mb, 0, none⟩)), FactS.eq (.pointer (some ⟨mb, 2, none⟩)), FactS.eq (undef)] : List (FactS S_)).getD t_ FactS.any := ⟨_, fun _ => rfl⟩
            have hP_ : ∀ i_ v_ (y_ : Nat → Option Value) W_, ([1, 8, 10, 11, 18].contains i_) = false → G (y_ 1) (y_ 8) (y_ 10) (y_ 11) (y_ 18) W_ → G (updY y_ i_ v_ 1) (updY y_ i_ v_ 8) (updY y_ i_ v_ 10) (updY y_ i_ v_ 11) (updY y_ i_ v_ 18) W_ := by
              intro i_ v_ y_ W_ hi_ h_
              simp only [List.contains_cons, List.contains_nil, Bool.or_false, Bool.or_eq_false_iff, beq_eq_false_iff_ne, ne_eq] at hi_
              obtain ⟨i1_, i8_, i10_, i11_, i18_⟩ := hi_
              rw [updY_ne y_ i_ v_ i1_, updY_ne y_ i_ v_ i8_, updY_ne y_ i_ v_ i10_, updY_ne y_ i_ v_ i11_, updY_ne y_ i_ v_ i18_]
              exact h_
            refine region_tabU 21 [(0, 70), (1, 71), (2, 72), (3, 73), (4, 74), (5, 75), (6, 76), (7, 77), (8, 78), (9, 79), (10, 80), (11, 81), (12, 82), (13, 83), (14, 84), (15, 85), (16, 86), (17, 87), (18, 88), (19, 89), (20, 90)] T (fun y_ W_ => G (y_ 1) (y_ 8) (y_ 10) (y_ 11) (y_ 18) W_) (by kernel_rfl) (by kernel_rfl) (by kernel_rfl) (by kernel_rfl) (by kernel_rfl) (by kernel_rfl) (by kernel_rfl) ?_ ?_ ?_
            · skip
              show G none none none none none _
              rw [hG]
              exact ⟨⟨(fun h => by cases h), (fun h => by cases h), (fun h => by cases h)⟩, fun _ => Ch2.none_ (by rw [hB]; simp), (Chg.refl _ _).drewN 1, by rw [hB]; simp, fun u e => by cases e⟩
            · skip
              refine stepsAll_cons (k := 0) ?_ ?_
              · intro fa fx fW fy hF hN hJ hE K fK
                have hJ : G (fy 1) (fy 8) (fy 10) (fy 11) (fy 18) fW := hJ
                have ev0 : fa.tmps[0]?.getD undef = .pointer (some ⟨mb, 0, none⟩) := hF.eo 0 (by kernel_rfl)
                refine wpOp_val rfl (wanted_none rfl) ?_ (fK (.pointer (some ⟨mb, 0, none⟩)) fW (hR_ fW) (by rw [hT]; exact rfl) (hP_ 0 _ fy fW rfl hJ))
                clear fK hE hF hJ hN
                go_simp
              refine stepsAll_cons (k := 1) ?_ ?_
              · intro fa fx fW fy hF hN hJ hE K fK
                have hJ : G (fy 1) (fy 8) (fy 10) (fy 11) (fy 18) fW := hJ
                rw [hG, hN] at hJ
                obtain ⟨⟨i1, i2, i3⟩, j1, j2, j3, j4⟩ := hJ
                have a8 : fy 8 = none := by cases h : fy 8 with | none => rfl | some u => rw [h] at i1; exact absurd (i1 rfl) (by simp)
                have a11 : fy 11 = none := by cases h : fy 11 with | none => rfl | some u => rw [h, a8] at i2; exact absurd (i2 rfl).1 (by simp)
                have a18 : fy 18 = none := by cases h : fy 18 with | none => rfl | some u => rw [h, a11] at i3; exact absurd (i3 rfl) (by simp)
                have k1 := j1 a18
                rw [a8, a11] at k1
                have hal : Below fW.heap.size fW (fW.alloc (.cells #[] 3)) := below_al (Below.refl _ _) _
                refine wpOp_to rfl (wanted_none rfl) (v := .slice (some ⟨fW.heap.size, 0, none⟩) 0 0) (W' := fW.alloc (.cells #[] 3)) (by clear fK hE hF hN i1 i2 i3 j1 j2 j3 j4 k1; go_simp) (fK _ _ (by rw [hS_]; exact Chg.of_below hal) (by rw [hT]; exact trivial) ?_)
                show G (some _) (fy 8) (fy 10) (fy 11) (fy 18) _
                rw [hG, a8, a11, a18]
                exact ⟨⟨(fun h => by cases h), (fun h => by cases h), (fun h => by cases h)⟩, fun _ => k1.x_, j2.trans (Chg.of_below hal), Nat.le_trans j3 hal.size, fun u e => by cases e⟩
              refine stepsAll_cons (k := 2) ?_ ?_
              · intro fa fx fW fy hF hN hJ hE K fK
                have hJ : G (fy 1) (fy 8) (fy 10) (fy 11) (fy 18) fW := hJ
                have ev0 : fa.tmps[0]?.getD undef = .pointer (some ⟨mb, 0, none⟩) := hF.eo 0 (by kernel_rfl)
                refine wpOp_val rfl (wanted_none rfl) ?_ (fK (.pointer (some ⟨mb, 0, none⟩)) fW (hR_ fW) (by rw [hT]; exact rfl) (hP_ 2 _ fy fW rfl hJ))
                clear fK hE hF hJ hN
                go_simp
              refine stepsAll_cons (k := 3) ?_ ?_
              · intro fa fx fW fy hF hN hJ hE K fK
                have hJ : G (fy 1) (fy 8) (fy 10) (fy 11) (fy 18) fW := hJ
                have q2 : fx 2 = .pointer (some ⟨mb, 0, none⟩) := by have q := (hE ⟨2, .data⟩ (by simp) rfl).2; rw [hT] at q; exact q
                have ev72 : fa.tmps[72]?.getD undef = .pointer (some ⟨mb, 0, none⟩) := (hF.ev 2 72 (by kernel_rfl)).trans q2
                refine wpOp_val rfl (wanted_none rfl) ?_ (fK (.pointer (some ⟨mb, 0, none⟩)) fW (hR_ fW) (by rw [hT]; exact rfl) (hP_ 3 _ fy fW rfl hJ))
                clear fK hE hF hJ hN
                go_simp
              refine stepsAll_cons (k := 4) ?_ ?_
              · intro fa fx fW fy hF hN hJ hE K fK
                have hJ : G (fy 1) (fy 8) (fy 10) (fy 11) (fy 18) fW := hJ
                have q3 : fx 3 = .pointer (some ⟨mb, 0, none⟩) := by have q := (hE ⟨3, .data⟩ (by simp) rfl).2; rw [hT] at q; exact q
                have ev73 : fa.tmps[73]?.getD undef = .pointer (some ⟨mb, 0, none⟩) := (hF.ev 3 73 (by kernel_rfl)).trans q3
                refine wpOp_val rfl (wanted_none rfl) ?_ (fK (.pointer (some ⟨mb, 2, none⟩)) fW (hR_ fW) (by rw [hT]; exact rfl) (hP_ 4 _ fy fW rfl hJ))
                clear fK hE hF hJ hN
                go_simp
              refine stepsAll_cons (k := 5) ?_ ?_
              · intro fa fx fW fy hF hN hJ hE K fK
                have hJ : G (fy 1) (fy 8) (fy 10) (fy 11) (fy 18) fW := hJ
                have q4 : fx 4 = .pointer (some ⟨mb, 2, none⟩) := by have q := (hE ⟨4, .data⟩ (by simp) rfl).2; rw [hT] at q; exact q
                have ev74 : fa.tmps[74]?.getD undef = .pointer (some ⟨mb, 2, none⟩) := (hF.ev 4 74 (by kernel_rfl)).trans q4
                have hJ1 := hJ
                rw [hG] at hJ1
                have k0 := (hbx.keep hJ1.2.2.1 hbS).cell
                clear hJ1
                refine wpOp_val rfl (wanted_none rfl) ?_ (fK (.slice A2 n cap2) fW (hR_ fW) (by rw [hT]; exact rfl) (hP_ 5 _ fy fW rfl hJ))
                clear fK hE hF hJ hN
                go_simp
              refine stepsAll_cons (k := 6) ?_ ?_
              · intro fa fx fW fy hF hN hJ hE K fK
                have hJ : G (fy 1) (fy 8) (fy 10) (fy 11) (fy 18) fW := hJ
                have ev6 : fa.tmps[6]?.getD undef = .int .i64 i := hF.eo 6 (by kernel_rfl)
                refine wpOp_val rfl (wanted_none rfl) ?_ (fK (.int .i64 i) fW (hR_ fW) (by rw [hT]; exact rfl) (hP_ 6 _ fy fW rfl hJ))
                clear fK hE hF hJ hN
                go_simp
              refine stepsAll_cons (k := 7) ?_ ?_
              · intro fa fx fW fy hF hN hJ hE K fK
                have hJ : G (fy 1) (fy 8) (fy 10) (fy 11) (fy 18) fW := hJ
                have q5 : fx 5 = .slice A2 n cap2 := by have q := (hE ⟨5, .data⟩ (by simp) rfl).2; rw [hT] at q; exact q
                have q6 : fx 6 = .int .i64 i := by have q := (hE ⟨6, .data⟩ (by simp) rfl).2; rw [hT] at q; exact q
                have ev75 : fa.tmps[75]?.getD undef = .slice A2 n cap2 := (hF.ev 5 75 (by kernel_rfl)).trans q5
                have ev76 : fa.tmps[76]?.getD undef = .int .i64 i := (hF.ev 6 76 (by kernel_rfl)).trans q6
                refine wpOp_val rfl (wanted_none rfl) ?_ (fK (.slice A2 i cap2) fW (hR_ fW) (by rw [hT]; exact rfl) (hP_ 7 _ fy fW rfl hJ))
                clear fK hE hF hJ hN
                rcases A2 with _ | ad0
                · obtain ⟨e1, e2, _⟩ := HR5.out.nil_n
                  subst e1
                  subst e2
                  obtain rfl : i = 0 := by omega
                  go_simp
                · go_simp
                  all_goals first | omega | (intro h; omega)
              refine stepsAll_cons (k := 8) ?_ ?_
              · intro fa fx fW fy hF hN hJ hE K fK
                have hJ : G (fy 1) (fy 8) (fy 10) (fy 11) (fy 18) fW := hJ
                have q1 : (FactS.any : FactS S_).p (fx 1) fW := by have q := (hE ⟨1, .data⟩ (by simp) rfl).2; rw [hT] at q; exact q
                have y1 : fy 1 = some (fx 1) := (hE ⟨1, .data⟩ (by simp) rfl).1
                have q7 : fx 7 = .slice A2 i cap2 := by have q := (hE ⟨7, .data⟩ (by simp) rfl).2; rw [hT] at q; exact q
                have ev71 : fa.tmps[71]?.getD undef = fx 1 := hF.ev 1 71 (by kernel_rfl)
                have ev77 : fa.tmps[77]?.getD undef = .slice A2 i cap2 := (hF.ev 7 77 (by kernel_rfl)).trans q7
                rw [hG, hN, y1] at hJ
                obtain ⟨⟨i1, i2, i3⟩, j1, j2, j3, j4⟩ := hJ
                have a11 : fy 11 = none := by cases h : fy 11 with | none => rfl | some u => rw [h] at i2; exact absurd (i2 rfl).1 (by simp)
                have a18 : fy 18 = none := by cases h : fy 18 with | none => rfl | some u => rw [h, a11] at i3; exact absurd (i3 rfl) (by simp)
                have k1 := j1 a18
                rw [a11] at k1
                have ho := k1.hx _ rfl rfl
                have hrA := j2.rds hr7.out hAS
                refine wpOp_list rfl (apn (w0 := fW) B rfl _ _ 22 3 _ 1 8 (by rfl) Try.underlying22 info_hint rfl (by decide) (by decide) (fx 1) 0 [] _ i cap2 (nums .i64 (keys.take i)) (by clear fK hE hF hN i1 i2 i3 j1 j2 j3 j4 k1; go_simp) (by clear fK hE hF hN i1 i2 i3 j1 j2 j3 j4 k1; go_simp) hrA (nums_one _ _) ho (Below.refl _ _) k1.hB (by omega) ?_)
                intro v1 w1 p1 p2 p3 p4
                rw [Nat.zero_add, List.nil_append] at p1
                have hch : Chg S0 fW w1 := Chg.of_grown p3 (fun k e => by rw [hS0]; exact own_base ho k e)
                refine fK _ _ (by rw [hS_]; exact hch) (by rw [hT]; exact trivial) ?_
                show G (fy 1) (some v1) (fy 10) (fy 11) (fy 18) w1
                rw [hG, a11, a18, y1]
                exact ⟨⟨(fun _ => rfl), (fun h => by cases h), (fun h => by cases h)⟩, fun _ => k1.a_ p1 p3 p4, j2.trans hch, Nat.le_trans j3 hch.size, fun u e => by cases e⟩
              refine stepsAll_cons (k := 9) ?_ ?_
              · intro fa fx fW fy hF hN hJ hE K fK
                have hJ : G (fy 1) (fy 8) (fy 10) (fy 11) (fy 18) fW := hJ
                have ev2 : fa.tmps[2]?.getD undef = .int .i64 key := hF.eo 2 (by kernel_rfl)
                refine wpOp_val rfl (wanted_none rfl) ?_ (fK (.int .i64 key) fW (hR_ fW) (by rw [hT]; exact rfl) (hP_ 9 _ fy fW rfl hJ))
                clear fK hE hF hJ hN
                go_simp
              refine stepsAll_cons (k := 10) ?_ ?_
              · intro fa fx fW fy hF hN hJ hE K fK
                have hJ : G (fy 1) (fy 8) (fy 10) (fy 11) (fy 18) fW := hJ
                have q9 : fx 9 = .int .i64 key := by have q := (hE ⟨9, .data⟩ (by simp) rfl).2; rw [hT] at q; exact q
                have ev79 : fa.tmps[79]?.getD undef = .int .i64 key := (hF.ev 9 79 (by kernel_rfl)).trans q9
                rw [hG, hN] at hJ
                obtain ⟨⟨i1, i2, i3⟩, j1, j2, j3, j4⟩ := hJ
                have a11 : fy 11 = none := by cases h : fy 11 with | none => rfl | some u => rw [h] at i2; exact absurd (i2 rfl).2 (by simp)
                have a18 : fy 18 = none := by cases h : fy 18 with | none => rfl | some u => rw [h, a11] at i3; exact absurd (i3 rfl) (by simp)
                have k1 := j1 a18
                rw [a11] at k1
                have hal : Below fW.heap.size fW (fW.alloc (.cells [.int .i64 key].toArray 3)) := below_al (Below.refl _ _) _
                refine wpOp_to rfl (wanted_none rfl) (v := .slice (some ⟨fW.heap.size, 0, none⟩) 1 1) (W' := fW.alloc (.cells [.int .i64 key].toArray 3)) (by clear fK hE hF hN i1 i2 i3 j1 j2 j3 j4 k1; go_simp) (fK _ _ (by rw [hS_]; exact Chg.of_below hal) (by rw [hT]; exact trivial) ?_)
                show G (fy 1) (fy 8) (some _) (fy 11) (fy 18) _
                rw [hG, a11, a18]
                exact ⟨⟨i1, (fun h => by cases h), (fun h => by cases h)⟩, fun _ => k1.l_ rfl, j2.trans (Chg.of_below hal), Nat.le_trans j3 hal.size, fun u e => by cases e⟩
              refine stepsAll_cons (k := 11) ?_ ?_
              · intro fa fx fW fy hF hN hJ hE K fK
                have hJ : G (fy 1) (fy 8) (fy 10) (fy 11) (fy 18) fW := hJ
                have q8 : (FactS.any : FactS S_).p (fx 8) fW := by have q := (hE ⟨8, .data⟩ (by simp) rfl).2; rw [hT] at q; exact q
                have y8 : fy 8 = some (fx 8) := (hE ⟨8, .data⟩ (by simp) rfl).1
                have q10 : (FactS.any : FactS S_).p (fx 10) fW := by have q := (hE ⟨10, .data⟩ (by simp) rfl).2; rw [hT] at q; exact q
                have y10 : fy 10 = some (fx 10) := (hE ⟨10, .data⟩ (by simp) rfl).1
                have ev78 : fa.tmps[78]?.getD undef = fx 8 := hF.ev 8 78 (by kernel_rfl)
                have ev80 : fa.tmps[80]?.getD undef = fx 10 := hF.ev 10 80 (by kernel_rfl)
                rw [hG, hN, y8, y10] at hJ
                obtain ⟨⟨i1, i2, i3⟩, j1, j2, j3, j4⟩ := hJ
                have a18 : fy 18 = none := by cases h : fy 18 with | none => rfl | some u => rw [h] at i3; exact absurd (i3 rfl) (by simp)
                have k1 := j1 a18
                have ho := k1.ha _ rfl rfl
                obtain ⟨gl, hl1, hl2, hl3, _, _⟩ := k1.hl _ rfl rfl
                refine wpOp_list rfl (apn (w0 := fW) B rfl _ _ 22 3 _ 1 8 (by rfl) Try.underlying22 info_hint rfl (by decide) (by decide) (fx 8) i (nums .i64 (keys.take i)) (some ⟨gl, 0, none⟩) 1 1 [.int .i64 key] (by clear fK hE hF hN i1 i2 i3 j1 j2 j3 j4 k1; go_simp) (by clear fK hE hF hN i1 i2 i3 j1 j2 j3 j4 k1; rw [hl1] at ev80; go_simp) hl3 (by intro u hu; simp at hu; subst hu; rfl) ho (Below.refl _ _) k1.hB (by omega) ?_)
                intro v1 w1 p1 p2 p3 p4
                have hch : Chg S0 fW w1 := Chg.of_grown p3 (fun k e => by rw [hS0]; exact own_base ho k e)
                refine fK _ _ (by rw [hS_]; exact hch) (by rw [hT]; exact trivial) ?_
                show G (fy 1) (fy 8) (fy 10) (some v1) (fy 18) w1
                rw [hG, a18, y8, y10]
                exact ⟨⟨(fun _ => i1 rfl), (fun _ => ⟨rfl, rfl⟩), (fun h => by cases h)⟩, fun _ => k1.d_ hch.size p1, j2.trans hch, Nat.le_trans j3 hch.size, fun u e => by cases e⟩
              refine stepsAll_cons (k := 12) ?_ ?_
              · intro fa fx fW fy hF hN hJ hE K fK
                have hJ : G (fy 1) (fy 8) (fy 10) (fy 11) (fy 18) fW := hJ
                have ev0 : fa.tmps[0]?.getD undef = .pointer (some ⟨mb, 0, none⟩) := hF.eo 0 (by kernel_rfl)
                refine wpOp_val rfl (wanted_none rfl) ?_ (fK (.pointer (some ⟨mb, 0, none⟩)) fW (hR_ fW) (by rw [hT]; exact rfl) (hP_ 12 _ fy fW rfl hJ))
                clear fK hE hF hJ hN
                go_simp
              refine stepsAll_cons (k := 13) ?_ ?_
              · intro fa fx fW fy hF hN hJ hE K fK
                have hJ : G (fy 1) (fy 8) (fy 10) (fy 11) (fy 18) fW := hJ
                have q12 : fx 12 = .pointer (some ⟨mb, 0, none⟩) := by have q := (hE ⟨12, .data⟩ (by simp) rfl).2; rw [hT] at q; exact q
                have ev82 : fa.tmps[82]?.getD undef = .pointer (some ⟨mb, 0, none⟩) := (hF.ev 12 82 (by kernel_rfl)).trans q12
                refine wpOp_val rfl (wanted_none rfl) ?_ (fK (.pointer (some ⟨mb, 0, none⟩)) fW (hR_ fW) (by rw [hT]; exact rfl) (hP_ 13 _ fy fW rfl hJ))
                clear fK hE hF hJ hN
                go_simp
              refine stepsAll_cons (k := 14) ?_ ?_
              · intro fa fx fW fy hF hN hJ hE K fK
                have hJ : G (fy 1) (fy 8) (fy 10) (fy 11) (fy 18) fW := hJ
                have q13 : fx 13 = .pointer (some ⟨mb, 0, none⟩) := by have q := (hE ⟨13, .data⟩ (by simp) rfl).2; rw [hT] at q; exact q
                have ev83 : fa.tmps[83]?.getD undef = .pointer (some ⟨mb, 0, none⟩) := (hF.ev 13 83 (by kernel_rfl)).trans q13
                refine wpOp_val rfl (wanted_none rfl) ?_ (fK (.pointer (some ⟨mb, 2, none⟩)) fW (hR_ fW) (by rw [hT]; exact rfl) (hP_ 14 _ fy fW rfl hJ))
                clear fK hE hF hJ hN
                go_simp
              refine stepsAll_cons (k := 15) ?_ ?_
              · intro fa fx fW fy hF hN hJ hE K fK
                have hJ : G (fy 1) (fy 8) (fy 10) (fy 11) (fy 18) fW := hJ
                have q14 : fx 14 = .pointer (some ⟨mb, 2, none⟩) := by have q := (hE ⟨14, .data⟩ (by simp) rfl).2; rw [hT] at q; exact q
                have ev84 : fa.tmps[84]?.getD undef = .pointer (some ⟨mb, 2, none⟩) := (hF.ev 14 84 (by kernel_rfl)).trans q14
                have hJ1 := hJ
                rw [hG] at hJ1
                have k0 := (hbx.keep hJ1.2.2.1 hbS).cell
                clear hJ1
                refine wpOp_val rfl (wanted_none rfl) ?_ (fK (.slice A2 n cap2) fW (hR_ fW) (by rw [hT]; exact rfl) (hP_ 15 _ fy fW rfl hJ))
                clear fK hE hF hJ hN
                go_simp
              refine stepsAll_cons (k := 16) ?_ ?_
              · intro fa fx fW fy hF hN hJ hE K fK
                have hJ : G (fy 1) (fy 8) (fy 10) (fy 11) (fy 18) fW := hJ
                have ev6 : fa.tmps[6]?.getD undef = .int .i64 i := hF.eo 6 (by kernel_rfl)
                refine wpOp_val rfl (wanted_none rfl) ?_ (fK (.int .i64 i) fW (hR_ fW) (by rw [hT]; exact rfl) (hP_ 16 _ fy fW rfl hJ))
                clear fK hE hF hJ hN
                go_simp
              refine stepsAll_cons (k := 17) ?_ ?_
              · intro fa fx fW fy hF hN hJ hE K fK
                have hJ : G (fy 1) (fy 8) (fy 10) (fy 11) (fy 18) fW := hJ
                have q15 : fx 15 = .slice A2 n cap2 := by have q := (hE ⟨15, .data⟩ (by simp) rfl).2; rw [hT] at q; exact q
                have q16 : fx 16 = .int .i64 i := by have q := (hE ⟨16, .data⟩ (by simp) rfl).2; rw [hT] at q; exact q
                have ev85 : fa.tmps[85]?.getD undef = .slice A2 n cap2 := (hF.ev 15 85 (by kernel_rfl)).trans q15
                have ev86 : fa.tmps[86]?.getD undef = .int .i64 i := (hF.ev 16 86 (by kernel_rfl)).trans q16
                refine wpOp_val rfl (wanted_none rfl) ?_ (fK (.slice A17 (n - i) (cap2 - i)) fW (hR_ fW) (by rw [hT]; exact rfl) (hP_ 17 _ fy fW rfl hJ))
                clear fK hE hF hJ hN
                rw [HA17.out]
                rcases A2 with _ | ad0
                · obtain ⟨e1, e2, _⟩ := HR5.out.nil_n
                  subst e1
                  subst e2
                  obtain rfl : i = 0 := by omega
                  go_simp
                · go_simp
                  by_cases hcc : cap2 = i <;> simp [hcc]
              refine stepsAll_cons (k := 18) ?_ ?_
              · intro fa fx fW fy hF hN hJ hE K fK
                have hJ : G (fy 1) (fy 8) (fy 10) (fy 11) (fy 18) fW := hJ
                have q11 : (FactS.any : FactS S_).p (fx 11) fW := by have q := (hE ⟨11, .data⟩ (by simp) rfl).2; rw [hT] at q; exact q
                have y11 : fy 11 = some (fx 11) := (hE ⟨11, .data⟩ (by simp) rfl).1
                have q17 : fx 17 = .slice A17 (n - i) (cap2 - i) := by have q := (hE ⟨17, .data⟩ (by simp) rfl).2; rw [hT] at q; exact q
                have ev81 : fa.tmps[81]?.getD undef = fx 11 := hF.ev 11 81 (by kernel_rfl)
                have ev87 : fa.tmps[87]?.getD undef = .slice A17 (n - i) (cap2 - i) := (hF.ev 17 87 (by kernel_rfl)).trans q17
                rw [hG, hN, y11] at hJ
                obtain ⟨⟨i1, i2, i3⟩, j1, j2, j3, j4⟩ := hJ
                have k1 := j1 rfl
                have ho := k1.hd _ rfl
                have hrA := j2.rds hr17.out hAS17
                refine wpOp_list rfl (apn (w0 := fW) B rfl _ _ 22 3 _ 1 8 (by rfl) Try.underlying22 info_hint rfl (by decide) (by decide) (fx 11) (i + 1) (nums .i64 (keys.take i) ++ [.int .i64 key]) A17 (n - i) (cap2 - i) (nums .i64 (keys.drop i)) (by clear fK hE hF hN i1 i2 i3 j1 j2 j3 j4 k1; go_simp) (by clear fK hE hF hN i1 i2 i3 j1 j2 j3 j4 k1; go_simp) hrA (nums_one _ _) ho (Below.refl _ _) k1.hB (by omega) ?_)
                intro v1 w1 p1 p2 p3 p4
                have hch : Chg S0 fW w1 := Chg.of_grown p3 (fun k e => by rw [hS0]; exact own_base ho k e)
                refine fK _ _ (by rw [hS_]; exact hch) (by rw [hT]; exact trivial) ?_
                show G (fy 1) (fy 8) (fy 10) (fy 11) (some v1) w1
                rw [hG, y11]
                exact ⟨⟨i1, (fun _ => i2 rfl), (fun _ => rfl)⟩, (fun e => by cases e), j2.trans hch, Nat.le_trans j3 hch.size, fun u e => by cases e; exact p1⟩
              refine stepsAll_cons (k := 19) ?_ ?_
              · intro fa fx fW fy hF hN hJ hE K fK
                have hJ : G (fy 1) (fy 8) (fy 10) (fy 11) (fy 18) fW := hJ
                have q0 : fx 0 = .pointer (some ⟨mb, 0, none⟩) := by have q := (hE ⟨0, .data⟩ (by simp) rfl).2; rw [hT] at q; exact q
                have ev70 : fa.tmps[70]?.getD undef = .pointer (some ⟨mb, 0, none⟩) := (hF.ev 0 70 (by kernel_rfl)).trans q0
                refine wpOp_val rfl (wanted_none rfl) ?_ (fK (.pointer (some ⟨mb, 0, none⟩)) fW (hR_ fW) (by rw [hT]; exact rfl) (hP_ 19 _ fy fW rfl hJ))
                clear fK hE hF hJ hN
                go_simp
              refine stepsAll_cons (k := 20) ?_ ?_
              · intro fa fx fW fy hF hN hJ hE K fK
                have hJ : G (fy 1) (fy 8) (fy 10) (fy 11) (fy 18) fW := hJ
                have q19 : fx 19 = .pointer (some ⟨mb, 0, none⟩) := by have q := (hE ⟨19, .data⟩ (by simp) rfl).2; rw [hT] at q; exact q
                have ev89 : fa.tmps[89]?.getD undef = .pointer (some ⟨mb, 0, none⟩) := (hF.ev 19 89 (by kernel_rfl)).trans q19
                refine wpOp_val rfl (wanted_none rfl) ?_ (fK (.pointer (some ⟨mb, 2, none⟩)) fW (hR_ fW) (by rw [hT]; exact rfl) (hP_ 20 _ fy fW rfl hJ))
                clear fK hE hF hJ hN
                go_simp
              exact stepsAll_nil
            intro fa fx fW fy hF hJ0 hx
            have y1 : fy 1 = some (fx 1) := (hx 1 (by decide)).1
            have y8 : fy 8 = some (fx 8) := (hx 8 (by decide)).1
            have y10 : fy 10 = some (fx 10) := (hx 10 (by decide)).1
            have y11 : fy 11 = some (fx 11) := (hx 11 (by decide)).1
            have y18 : fy 18 = some (fx 18) := (hx 18 (by decide)).1
            have hJ : G (fy 1) (fy 8) (fy 10) (fy 11) (fy 18) fW := hJ0
            clear hJ0
            rw [y1, y8, y10, y11, y18] at hJ
            have q18 : (FactS.any : FactS S_).p (fx 18) fW := by have q := (hx 18 (by decide)).2; rw [hT] at q; exact q
            have ev88 : fa.tmps[88]?.getD undef = fx 18 := hF.ev 18 88 (by kernel_rfl)
            have q20 : fx 20 = .pointer (some ⟨mb, 2, none⟩) := by have q := (hx 20 (by decide)).2; rw [hT] at q; exact q
            have ev90 : fa.tmps[90]?.getD undef = .pointer (some ⟨mb, 2, none⟩) := (hF.ev 20 90 (by kernel_rfl)).trans q20
            rw [hG] at hJ
            obtain ⟨_, _, jc, jb, jo⟩ := hJ
            have ho := jo _ rfl
            have hbz := hbx.keep jc hbS
            have c0 := hbz.cell
            have f0 := hbz.free
            obtain ⟨Ae, ce, hse⟩ := own_slice ho
            refine wpOp_fin rfl (wanted_none rfl) rfl (W' := fW.setCell ⟨mb, 2, none⟩ (fx 18)) ?_ ?_
            · clear hF hx
              rw [hse] at ev88 ⊢
              go_simp
            refine tail_end ?_
            rw [hF.eq]
            clear hF hx hT T hP_ hR_ y1 y8 y10 y11 y18
            simp only [putAll, Act.put, List.setIfInBounds_toArray, List.set_cons_zero, List.set_cons_succ, ]
            have hbel : Below W5.heap.size W5 fW := jc.toBelow (Below.refl _ _) (Nat.le_refl _) (fun k e => by rw [hS0] at e; omega)
            have ho2 : fW.ownsRow B 3 1 (fx 18) (i + 1 + (n - i)) (nums .i64 (keys.take i ++ [key] ++ keys.drop i)) := by rw [nums_append, nums_append]; exact ho
            have HFIN := Lib.hid (rf_set2 (show (ids.take i ++ [x] ++ ids.drop i).length = i + 1 + (n - i) by simp only [List.length_append, List.length_take, List.length_drop, List.length_singleton]; rw [HNL.out]; omega) HS0.out HS1.out HS2.out HS3.out HS5.out HLB.out hbel hB ho2)
            have HC7 : Hid (Chg (fun k => k = mb) w (fW.setCell ⟨mb, 2, none⟩ (fx 18))) := (HC6.out.trans (Chg.of_below hbel)).setCell _ _ _ rfl
            have HU2 : Hid (∀ k, (fx 18).ownBlock = some k → w.heap.size ≤ k) := Lib.hid (fun k e => by have h1 := own_base ho2 k e; have h2 := HC6.out.size; omega)
            clear hbel ho ho2 jc jb jo hbz c0 f0 hse hbx hcapn hAS hAS17 hr7 hr17 HA17 hbS HR5 HRF hB hS0 hG
            go_wp2
            go_end0
            exact ⟨rfl, i, u1, fx 18, hin, HLO, HST, HFIN, HC7, Lib.hid (fun k h => h.elim (HU1.out k) (HU2.out k))⟩
        · have HST : Hid (i < n → ¬ (keys.getD i 0 < key ∨ (keys.getD i 0 = key ∧ ids.getD i 0 < x))) := Lib.hid (fun _ h => by rw [HKI.out, HXI.out] at h; omega)
          go_wp2_with fail
          clear k1 k2 p1 p2
          obtain ⟨A, hAe⟩ : ∃ A, A = some (⟨g, 0, none⟩ : Addr) := ⟨_, rfl⟩
          obtain ⟨A2, hAe2⟩ : ∃ A, A = some (⟨g2, 0, none⟩ : Addr) := ⟨_, rfl⟩
          obtain ⟨capx, hce⟩ : ∃ c, c = cap := ⟨_, rfl⟩
          obtain ⟨capx2, hce2⟩ : ∃ c, c = cap2 := ⟨_, rfl⟩
          have HRR : Hid (Rf wr base mb most (.slice A n capx) (.slice A2 n capx2) ids keys) := Lib.hid (by rw [hAe, hAe2, hce, hce2]; exact HR.out.below HB.out)
          clear hAe hAe2 hce hce2
          obtain ⟨cap, rfl⟩ : ∃ c, c = capx := ⟨_, rfl⟩
          obtain ⟨cap2, rfl⟩ : ∃ c, c = capx2 := ⟨_, rfl⟩
          have hin : i ≤ n := by omega
          have HRF := HRR
          clear HRR
          obtain ⟨W5, hW5⟩ : ∃ x, x = wr := ⟨_, rfl⟩
          rw [← hW5] at HRF ⊢
          have HB5 : Hid (Below w.heap.size w W5) := Lib.hid (by rw [hW5]; exact HB.out)
          clear hW5 HB
          have hr5 := (own_rds' HRF.out.io).2
          rw [HNL.out] at hr5
          have HR5 := Lib.hid hr5
          clear hr5
          obtain ⟨B, hB⟩ : ∃ B, B = W5.heap.size := ⟨_, rfl⟩
          obtain ⟨S0, hS0⟩ : ∃ S0 : Nat → Prop, S0 = fun k => B ≤ k := ⟨_, rfl⟩
          have hbS : ¬ S0 mb := by rw [hS0]; have := HRF.out.mo.lt; omega
          have hAS : ∀ ad, A = some ad → ¬ S0 ad.block := fun ad e => by
            rw [hS0]
            have h1 := HRF.out.io.lt ad.block (by rw [e]; rfl)
            omega
          have hr7 := Lib.hid (HR5.out.take_ i hin)
          rw [Nat.mul_one, nums_takeI] at hr7
          have hr17 := Lib.hid (HR5.out.restI hin)
          rw [nums_dropI] at hr17
          obtain ⟨A17, hA17⟩ : ∃ A17, A17 = A.map (fun ad => if cap = i then ad else ad.add i) := ⟨_, rfl⟩
          rw [← hA17] at hr17
          have HA17 := Lib.hid hA17
          have hAS17 : ∀ ad, A17 = some ad → ¬ S0 ad.block := fun ad e => by
            rw [hA17] at e
            cases hAA : A with
            | none => rw [hAA] at e; cases e
            | some ad0 =>
              rw [hAA] at e
              have h2 := hAS ad0 hAA
              have h3 : (if cap = i then ad0 else ad0.add i) = ad := by simpa using e
              rw [← h3]
              split
              · exact h2
              · have h4 : (ad0.add i).block = ad0.block := by unfold Addr.add; split <;> rfl
                rw [h4]
                exact h2
          clear hA17
          have hcapn : n ≤ cap := HR5.out.le
          have hbx := HRF.out.ib
          obtain ⟨G, hG⟩ : ∃ G : Option Value → Option Value → Option Value → Option Value → Option Value → World → Prop, ∀ xx aa ll dd ee W, G xx aa ll dd ee W = (((aa.isSome = true → xx.isSome = true) ∧ (dd.isSome = true → aa.isSome = true ∧ ll.isSome = true) ∧ (ee.isSome = true → dd.isSome = true)) ∧ (ee = none → Ch2 3 1 B i 1 (nums .i64 ((zs ids).take i)) [.int .i64 (x : Nat)] xx aa ll dd W) ∧ Chg S0 W5 W ∧ B ≤ W.heap.size ∧ (∀ u, ee = some u → W.ownsRow B 3 1 u (i + 1 + (n - i)) (nums .i64 ((zs ids).take i) ++ [.int .i64 (x : Nat)] ++ nums .i64 ((zs ids).drop i)))) := ⟨_, fun _ _ _ _ _ _ => rfl⟩
          obtain ⟨S_, hS_⟩ : ∃ S_ : World → World → Prop, S_ = (Chg S0) := ⟨_, rfl⟩
          have hR_ : ∀ W, S_ W W := by intro W; rw [hS_]; exact Chg.refl _ _
          obtain ⟨T, hT⟩ : ∃ T : Nat → FactS S_, ∀ t_, T t_ = ([FactS.eq (.pointer (some ⟨mb, 0, none⟩)), FactS.any, FactS.eq (.pointer (some ⟨mb, 0, none⟩)), FactS.eq (.pointer (some ⟨mb, 0, none⟩)), FactS.eq (.pointer (some ⟨mb, 1, none⟩)), FactS.eq (.slice A n cap), FactS.eq (.int .i64 i), FactS.eq (.slice A i cap), FactS.any, FactS.eq (.int .i64 (x : Nat)), FactS.any, FactS.any, FactS.eq (.pointer (some ⟨mb, 0, none⟩)), FactS.eq (.pointer (some ⟨mb, 0, none⟩)), FactS.eq (.pointer (some ⟨mb, 1, none⟩)), FactS.eq (.slice A n cap), FactS.eq (.int .i64 i), FactS.eq (.slice A17 (n - i) (cap - i)), FactS.any, FactS.eq (.pointer (some ⟨mb, 0, none⟩)), FactS.eq (.pointer (some ⟨mb, 1, none⟩)), FactS.eq (undef)] : List (FactS S_)).getD t_ FactS.any := ⟨_, fun _ => rfl⟩
          have hP_ : ∀ i_ v_ (y_ : Nat → Option Value) W_, ([1, 8, 10, 11, 18].contains i_) = false → G (y_ 1) (y_ 8) (y_ 10) (y_ 11) (y_ 18) W_ → G (updY y_ i_ v_ 1) (updY y_ i_ v_ 8) (updY y_ i_ v_ 10) (updY y_ i_ v_ 11) (updY y_ i_ v_ 18) W_ := by
            intro i_ v_ y_ W_ hi_ h_
            simp only [List.contains_cons, List.contains_nil, Bool.or_false, Bool.or_eq_false_iff, beq_eq_false_iff_ne, ne_eq] at hi_
            obtain ⟨i1_, i8_, i10_, i11_, i18_⟩ := hi_
            rw [updY_ne y_ i_ v_ i1_, updY_ne y_ i_ v_ i8_, updY_ne y_ i_ v_ i10_, updY_ne y_ i_ v_ i11_, updY_ne y_ i_ v_ i18_]
            exact h_
          refine region_tabU 21 [(0, 49), (1, 50), (2, 51), (3, 52), (4, 53), (5, 54), (6, 55), (7, 56), (8, 57), (9, 58), (10, 59), (11, 60), (12, 61), (13, 62), (14, 63), (15, 64), (16, 65), (17, 66), (18, 67), (19, 68), (20, 69)] T (fun y_ W_ => G (y_ 1) (y_ 8) (y_ 10) (y_ 11) (y_ 18) W_) (by kernel_rfl) (by kernel_rfl) (by kernel_rfl) (by kernel_rfl) (by kernel_rfl) (by kernel_rfl) (by kernel_rfl) ?_ ?_ ?_
          · skip
            show G none none none none none _
            rw [hG]
            exact ⟨⟨(fun h => by cases h), (fun h => by cases h), (fun h => by cases h)⟩, fun _ => Ch2.none_ (by rw [hB]; simp), (Chg.refl _ _).drewN 1, by rw [hB]; simp, fun u e => by cases e⟩
          · skip
            refine stepsAll_cons (k := 0) ?_ ?_
            · intro fa fx fW fy hF hN hJ hE K fK
              have hJ : G (fy 1) (fy 8) (fy 10) (fy 11) (fy 18) fW := hJ
              have ev0 : fa.tmps[0]?.getD undef = .pointer (some ⟨mb, 0, none⟩) := hF.eo 0 (by kernel_rfl)
              refine wpOp_val rfl (wanted_none rfl) ?_ (fK (.pointer (some ⟨mb, 0, none⟩)) fW (hR_ fW) (by rw [hT]; exact rfl) (hP_ 0 _ fy fW rfl hJ))
              clear fK hE hF hJ hN
              go_simp
            refine stepsAll_cons (k := 1) ?_ ?_
            · intro fa fx fW fy hF hN hJ hE K fK
              have hJ : G (fy 1) (fy 8) (fy 10) (fy 11) (fy 18) fW := hJ
              rw [hG, hN] at hJ
              obtain ⟨⟨i1, i2, i3⟩, j1, j2, j3, j4⟩ := hJ
              have a8 : fy 8 = none := by cases h : fy 8 with | none => rfl | some u => rw [h] at i1; exact absurd (i1 rfl) (by simp)
              have a11 : fy 11 = none := by cases h : fy 11 with | none => rfl | some u => rw [h, a8] at i2; exact absurd (i2 rfl).1 (by simp)
              have a18 : fy 18 = none := by cases h : fy 18 with | none => rfl | some u => rw [h, a11] at i3; exact absurd (i3 rfl) (by simp)
              have k1 := j1 a18
              rw [a8, a11] at k1
              have hal : Below fW.heap.size fW (fW.alloc (.cells #[] 3)) := below_al (Below.refl _ _) _
              refine wpOp_to rfl (wanted_none rfl) (v := .slice (some ⟨fW.heap.size, 0, none⟩) 0 0) (W' := fW.alloc (.cells #[] 3)) (by clear fK hE hF hN i1 i2 i3 j1 j2 j3 j4 k1; go_simp) (fK _ _ (by rw [hS_]; exact Chg.of_below hal) (by rw [hT]; exact trivial) ?_)
              show G (some _) (fy 8) (fy 10) (fy 11) (fy 18) _
              rw [hG, a8, a11, a18]
              exact ⟨⟨(fun h => by cases h), (fun h => by cases h), (fun h => by cases h)⟩, fun _ => k1.x_, j2.trans (Chg.of_below hal), Nat.le_trans j3 hal.size, fun u e => by cases e⟩
            refine stepsAll_cons (k := 2) ?_ ?_
            · intro fa fx fW fy hF hN hJ hE K fK
              have hJ : G (fy 1) (fy 8) (fy 10) (fy 11) (fy 18) fW := hJ
              have ev0 : fa.tmps[0]?.getD undef = .pointer (some ⟨mb, 0, none⟩) := hF.eo 0 (by kernel_rfl)
              refine wpOp_val rfl (wanted_none rfl) ?_ (fK (.pointer (some ⟨mb, 0, none⟩)) fW (hR_ fW) (by rw [hT]; exact rfl) (hP_ 2 _ fy fW rfl hJ))
              clear fK hE hF hJ hN
              go_simp
            refine stepsAll_cons (k := 3) ?_ ?_
            · intro fa fx fW fy hF hN hJ hE K fK
              have hJ : G (fy 1) (fy 8) (fy 10) (fy 11) (fy 18) fW := hJ
              have q2 : fx 2 = .pointer (some ⟨mb, 0, none⟩) := by have q := (hE ⟨2, .data⟩ (by simp) rfl).2; rw [hT] at q; exact q
              have ev51 : fa.tmps[51]?.getD undef = .pointer (some ⟨mb, 0, none⟩) := (hF.ev 2 51 (by kernel_rfl)).trans q2
              refine wpOp_val rfl (wanted_none rfl) ?_ (fK (.pointer (some ⟨mb, 0, none⟩)) fW (hR_ fW) (by rw [hT]; exact rfl) (hP_ 3 _ fy fW rfl hJ))
              clear fK hE hF hJ hN
              go_simp
            refine stepsAll_cons (k := 4) ?_ ?_
            · intro fa fx fW fy hF hN hJ hE K fK
              have hJ : G (fy 1) (fy 8) (fy 10) (fy 11) (fy 18) fW := hJ
              have q3 : fx 3 = .pointer (some ⟨mb, 0, none⟩) := by have q := (hE ⟨3, .data⟩ (by simp) rfl).2; rw [hT] at q; exact q
              have ev52 : fa.tmps[52]?.getD undef = .pointer (some ⟨mb, 0, none⟩) := (hF.ev 3 52 (by kernel_rfl)).trans q3
              refine wpOp_val rfl (wanted_none rfl) ?_ (fK (.pointer (some ⟨mb, 1, none⟩)) fW (hR_ fW) (by rw [hT]; exact rfl) (hP_ 4 _ fy fW rfl hJ))
              clear fK hE hF hJ hN
              go_simp
            refine stepsAll_cons (k := 5) ?_ ?_
            · intro fa fx fW fy hF hN hJ hE K fK
              have hJ : G (fy 1) (fy 8) (fy 10) (fy 11) (fy 18) fW := hJ
              have q4 : fx 4 = .pointer (some ⟨mb, 1, none⟩) := by have q := (hE ⟨4, .data⟩ (by simp) rfl).2; rw [hT] at q; exact q
              have ev53 : fa.tmps[53]?.getD undef = .pointer (some ⟨mb, 1, none⟩) := (hF.ev 4 53 (by kernel_rfl)).trans q4
              have hJ1 := hJ
              rw [hG] at hJ1
              have k0 := (hbx.keep hJ1.2.2.1 hbS).cell
              clear hJ1
              refine wpOp_val rfl (wanted_none rfl) ?_ (fK (.slice A n cap) fW (hR_ fW) (by rw [hT]; exact rfl) (hP_ 5 _ fy fW rfl hJ))
              clear fK hE hF hJ hN
              go_simp
            refine stepsAll_cons (k := 6) ?_ ?_
            · intro fa fx fW fy hF hN hJ hE K fK
              have hJ : G (fy 1) (fy 8) (fy 10) (fy 11) (fy 18) fW := hJ
              have ev6 : fa.tmps[6]?.getD undef = .int .i64 i := hF.eo 6 (by kernel_rfl)
              refine wpOp_val rfl (wanted_none rfl) ?_ (fK (.int .i64 i) fW (hR_ fW) (by rw [hT]; exact rfl) (hP_ 6 _ fy fW rfl hJ))
              clear fK hE hF hJ hN
              go_simp
            refine stepsAll_cons (k := 7) ?_ ?_
            · intro fa fx fW fy hF hN hJ hE K fK
              have hJ : G (fy 1) (fy 8) (fy 10) (fy 11) (fy 18) fW := hJ
              have q5 : fx 5 = .slice A n cap := by have q := (hE ⟨5, .data⟩ (by simp) rfl).2; rw [hT] at q; exact q
              have q6 : fx 6 = .int .i64 i := by have q := (hE ⟨6, .data⟩ (by simp) rfl).2; rw [hT] at q; exact q
              have ev54 : fa.tmps[54]?.getD undef = .slice A n cap := (hF.ev 5 54 (by kernel_rfl)).trans q5
              have ev55 : fa.tmps[55]?.getD undef = .int .i64 i := (hF.ev 6 55 (by kernel_rfl)).trans q6
              refine wpOp_val rfl (wanted_none rfl) ?_ (fK (.slice A i cap) fW (hR_ fW) (by rw [hT]; exact rfl) (hP_ 7 _ fy fW rfl hJ))
              clear fK hE hF hJ hN
              rcases A with _ | ad0
              · obtain ⟨e1, e2, _⟩ := HR5.out.nil_n
                subst e1
                subst e2
                obtain rfl : i = 0 := by omega
                go_simp
              · go_simp
                all_goals first | omega | (intro h; omega)
            refine stepsAll_cons (k := 8) ?_ ?_
            · intro fa fx fW fy hF hN hJ hE K fK
              have hJ : G (fy 1) (fy 8) (fy 10) (fy 11) (fy 18) fW := hJ
              have q1 : (FactS.any : FactS S_).p (fx 1) fW := by have q := (hE ⟨1, .data⟩ (by simp) rfl).2; rw [hT] at q; exact q
              have y1 : fy 1 = some (fx 1) := (hE ⟨1, .data⟩ (by simp) rfl).1
              have q7 : fx 7 = .slice A i cap := by have q := (hE ⟨7, .data⟩ (by simp) rfl).2; rw [hT] at q; exact q
              have ev50 : fa.tmps[50]?.getD undef = fx 1 := hF.ev 1 50 (by kernel_rfl)
              have ev56 : fa.tmps[56]?.getD undef = .slice A i cap := (hF.ev 7 56 (by kernel_rfl)).trans q7
              rw [hG, hN, y1] at hJ
              obtain ⟨⟨i1, i2, i3⟩, j1, j2, j3, j4⟩ := hJ
              have a11 : fy 11 = none := by cases h : fy 11 with | none => rfl | some u => rw [h] at i2; exact absurd (i2 rfl).1 (by simp)
              have a18 : fy 18 = none := by cases h : fy 18 with | none => rfl | some u => rw [h, a11] at i3; exact absurd (i3 rfl) (by simp)
              have k1 := j1 a18
              rw [a11] at k1
              have ho := k1.hx _ rfl rfl
              have hrA := j2.rds hr7.out hAS
              refine wpOp_list rfl (apn (w0 := fW) B rfl _ _ 22 3 _ 1 8 (by rfl) Try.underlying22 info_hint rfl (by decide) (by decide) (fx 1) 0 [] _ i cap (nums .i64 ((zs ids).take i)) (by clear fK hE hF hN i1 i2 i3 j1 j2 j3 j4 k1; go_simp) (by clear fK hE hF hN i1 i2 i3 j1 j2 j3 j4 k1; go_simp) hrA (nums_one _ _) ho (Below.refl _ _) k1.hB (by omega) ?_)
              intro v1 w1 p1 p2 p3 p4
              rw [Nat.zero_add, List.nil_append] at p1
              have hch : Chg S0 fW w1 := Chg.of_grown p3 (fun k e => by rw [hS0]; exact own_base ho k e)
              refine fK _ _ (by rw [hS_]; exact hch) (by rw [hT]; exact trivial) ?_
              show G (fy 1) (some v1) (fy 10) (fy 11) (fy 18) w1
              rw [hG, a11, a18, y1]
              exact ⟨⟨(fun _ => rfl), (fun h => by cases h), (fun h => by cases h)⟩, fun _ => k1.a_ p1 p3 p4, j2.trans hch, Nat.le_trans j3 hch.size, fun u e => by cases e⟩
            refine stepsAll_cons (k := 9) ?_ ?_
            · intro fa fx fW fy hF hN hJ hE K fK
              have hJ : G (fy 1) (fy 8) (fy 10) (fy 11) (fy 18) fW := hJ
              have ev1 : fa.tmps[1]?.getD undef = .int .i64 (x : Nat) := hF.eo 1 (by kernel_rfl)
              refine wpOp_val rfl (wanted_none rfl) ?_ (fK (.int .i64 (x : Nat)) fW (hR_ fW) (by rw [hT]; exact rfl) (hP_ 9 _ fy fW rfl hJ))
              clear fK hE hF hJ hN
              go_simp
            refine stepsAll_cons (k := 10) ?_ ?_
            · intro fa fx fW fy hF hN hJ hE K fK
              have hJ : G (fy 1) (fy 8) (fy 10) (fy 11) (fy 18) fW := hJ
              have q9 : fx 9 = .int .i64 (x : Nat) := by have q := (hE ⟨9, .data⟩ (by simp) rfl).2; rw [hT] at q; exact q
              have ev58 : fa.tmps[58]?.getD undef = .int .i64 (x : Nat) := (hF.ev 9 58 (by kernel_rfl)).trans q9
              rw [hG, hN] at hJ
              obtain ⟨⟨i1, i2, i3⟩, j1, j2, j3, j4⟩ := hJ
              have a11 : fy 11 = none := by cases h : fy 11 with | none => rfl | some u => rw [h] at i2; exact absurd (i2 rfl).2 (by simp)
              have a18 : fy 18 = none := by cases h : fy 18 with | none => rfl | some u => rw [h, a11] at i3; exact absurd (i3 rfl) (by simp)
              have k1 := j1 a18
              rw [a11] at k1
              have hal : Below fW.heap.size fW (fW.alloc (.cells [.int .i64 (x : Nat)].toArray 3)) := below_al (Below.refl _ _) _
              refine wpOp_to rfl (wanted_none rfl) (v := .slice (some ⟨fW.heap.size, 0, none⟩) 1 1) (W' := fW.alloc (.cells [.int .i64 (x : Nat)].toArray 3)) (by clear fK hE hF hN i1 i2 i3 j1 j2 j3 j4 k1; go_simp) (fK _ _ (by rw [hS_]; exact Chg.of_below hal) (by rw [hT]; exact trivial) ?_)
              show G (fy 1) (fy 8) (some _) (fy 11) (fy 18) _
              rw [hG, a11, a18]
              exact ⟨⟨i1, (fun h => by cases h), (fun h => by cases h)⟩, fun _ => k1.l_ rfl, j2.trans (Chg.of_below hal), Nat.le_trans j3 hal.size, fun u e => by cases e⟩
            refine stepsAll_cons (k := 11) ?_ ?_
            · intro fa fx fW fy hF hN hJ hE K fK
              have hJ : G (fy 1) (fy 8) (fy 10) (fy 11) (fy 18) fW := hJ
              have q8 : (FactS.any : FactS S_).p (fx 8) fW := by have q := (hE ⟨8, .data⟩ (by simp) rfl).2; rw [hT] at q; exact q
              have y8 : fy 8 = some (fx 8) := (hE ⟨8, .data⟩ (by simp) rfl).1
              have q10 : (FactS.any : FactS S_).p (fx 10) fW := by have q := (hE ⟨10, .data⟩ (by simp) rfl).2; rw [hT] at q; exact q
              have y10 : fy 10 = some (fx 10) := (hE ⟨10, .data⟩ (by simp) rfl).1
              have ev57 : fa.tmps[57]?.getD undef = fx 8 := hF.ev 8 57 (by kernel_rfl)
              have ev59 : fa.tmps[59]?.getD undef = fx 10 := hF.ev 10 59 (by kernel_rfl)
              rw [hG, hN, y8, y10] at hJ
              obtain ⟨⟨i1, i2, i3⟩, j1, j2, j3, j4⟩ := hJ
              have a18 : fy 18 = none := by cases h : fy 18 with | none => rfl | some u => rw [h] at i3; exact absurd (i3 rfl) (by simp)
              have k1 := j1 a18
              have ho := k1.ha _ rfl rfl
              obtain ⟨gl, hl1, hl2, hl3, _, _⟩ := k1.hl _ rfl rfl
              refine wpOp_list rfl (apn (w0 := fW) B rfl _ _ 22 3 _ 1 8 (by rfl) Try.underlying22 info_hint rfl (by decide) (by decide) (fx 8) i (nums .i64 ((zs ids).take i)) (some ⟨gl, 0, none⟩) 1 1 [.int .i64 (x : Nat)] (by clear fK hE hF hN i1 i2 i3 j1 j2 j3 j4 k1; go_simp) (by clear fK hE hF hN i1 i2 i3 j1 j2 j3 j4 k1; rw [hl1] at ev59; go_simp) hl3 (by intro u hu; simp at hu; subst hu; rfl) ho (Below.refl _ _) k1.hB (by omega) ?_)
              intro v1 w1 p1 p2 p3 p4
              have hch : Chg S0 fW w1 := Chg.of_grown p3 (fun k e => by rw [hS0]; exact own_base ho k e)
              refine fK _ _ (by rw [hS_]; exact hch) (by rw [hT]; exact trivial) ?_
              show G (fy 1) (fy 8) (fy 10) (some v1) (fy 18) w1
              rw [hG, a18, y8, y10]
              exact ⟨⟨(fun _ => i1 rfl), (fun _ => ⟨rfl, rfl⟩), (fun h => by cases h)⟩, fun _ => k1.d_ hch.size p1, j2.trans hch, Nat.le_trans j3 hch.size, fun u e => by cases e⟩
            refine stepsAll_cons (k := 12) ?_ ?_
            · intro fa fx fW fy hF hN hJ hE K fK
              have hJ : G (fy 1) (fy 8) (fy 10) (fy 11) (fy 18) fW := hJ
              have ev0 : fa.tmps[0]?.getD undef = .pointer (some ⟨mb, 0, none⟩) := hF.eo 0 (by kernel_rfl)
              refine wpOp_val rfl (wanted_none rfl) ?_ (fK (.pointer (some ⟨mb, 0, none⟩)) fW (hR_ fW) (by rw [hT]; exact rfl) (hP_ 12 _ fy fW rfl hJ))
              clear fK hE hF hJ hN
              go_simp
            refine stepsAll_cons (k := 13) ?_ ?_
            · intro fa fx fW fy hF hN hJ hE K fK
              have hJ : G (fy 1) (fy 8) (fy 10) (fy 11) (fy 18) fW := hJ
              have q12 : fx 12 = .pointer (some ⟨mb, 0, none⟩) := by have q := (hE ⟨12, .data⟩ (by simp) rfl).2; rw [hT] at q; exact q
              have ev61 : fa.tmps[61]?.getD undef = .pointer (some ⟨mb, 0, none⟩) := (hF.ev 12 61 (by kernel_rfl)).trans q12
              refine wpOp_val rfl (wanted_none rfl) ?_ (fK (.pointer (some ⟨mb, 0, none⟩)) fW (hR_ fW) (by rw [hT]; exact rfl) (hP_ 13 _ fy fW rfl hJ))
              clear fK hE hF hJ hN
              go_simp
            refine stepsAll_cons (k := 14) ?_ ?_
            · intro fa fx fW fy hF hN hJ hE K fK
              have hJ : G (fy 1) (fy 8) (fy 10) (fy 11) (fy 18) fW := hJ
              have q13 : fx 13 = .pointer (some ⟨mb, 0, none⟩) := by have q := (hE ⟨13, .data⟩ (by simp) rfl).2; rw [hT] at q; exact q
              have ev62 : fa.tmps[62]?.getD undef = .pointer (some ⟨mb, 0, none⟩) := (hF.ev 13 62 (by kernel_rfl)).trans q13
              refine wpOp_val rfl (wanted_none rfl) ?_ (fK (.pointer (some ⟨mb, 1, none⟩)) fW (hR_ fW) (by rw [hT]; exact rfl) (hP_ 14 _ fy fW rfl hJ))
              clear fK hE hF hJ hN
              go_simp
            refine stepsAll_cons (k := 15) ?_ ?_
            · intro fa fx fW fy hF hN hJ hE K fK
              have hJ : G (fy 1) (fy 8) (fy 10) (fy 11) (fy 18) fW := hJ
              have q14 : fx 14 = .pointer (some ⟨mb, 1, none⟩) := by have q := (hE ⟨14, .data⟩ (by simp) rfl).2; rw [hT] at q; exact q
              have ev63 : fa.tmps[63]?.getD undef = .pointer (some ⟨mb, 1, none⟩) := (hF.ev 14 63 (by kernel_rfl)).trans q14
              have hJ1 := hJ
              rw [hG] at hJ1
              have k0 := (hbx.keep hJ1.2.2.1 hbS).cell
              clear hJ1
              refine wpOp_val rfl (wanted_none rfl) ?_ (fK (.slice A n cap) fW (hR_ fW) (by rw [hT]; exact rfl) (hP_ 15 _ fy fW rfl hJ))
              clear fK hE hF hJ hN
              go_simp
            refine stepsAll_cons (k := 16) ?_ ?_
            · intro fa fx fW fy hF hN hJ hE K fK
              have hJ : G (fy 1) (fy 8) (fy 10) (fy 11) (fy 18) fW := hJ
              have ev6 : fa.tmps[6]?.getD undef = .int .i64 i := hF.eo 6 (by kernel_rfl)
              refine wpOp_val rfl (wanted_none rfl) ?_ (fK (.int .i64 i) fW (hR_ fW) (by rw [hT]; exact rfl) (hP_ 16 _ fy fW rfl hJ))
              clear fK hE hF hJ hN
              go_simp
            refine stepsAll_cons (k := 17) ?_ ?_
            · intro fa fx fW fy hF hN hJ hE K fK
              have hJ : G (fy 1) (fy 8) (fy 10) (fy 11) (fy 18) fW := hJ
              have q15 : fx 15 = .slice A n cap := by have q := (hE ⟨15, .data⟩ (by simp) rfl).2; rw [hT] at q; exact q
              have q16 : fx 16 = .int .i64 i := by have q := (hE ⟨16, .data⟩ (by simp) rfl).2; rw [hT] at q; exact q
              have ev64 : fa.tmps[64]?.getD undef = .slice A n cap := (hF.ev 15 64 (by kernel_rfl)).trans q15
              have ev65 : fa.tmps[65]?.getD undef = .int .i64 i := (hF.ev 16 65 (by kernel_rfl)).trans q16
              refine wpOp_val rfl (wanted_none rfl) ?_ (fK (.slice A17 (n - i) (cap - i)) fW (hR_ fW) (by rw [hT]; exact rfl) (hP_ 17 _ fy fW rfl hJ))
              clear fK hE hF hJ hN
              rw [HA17.out]
              rcases A with _ | ad0
              · obtain ⟨e1, e2, _⟩ := HR5.out.nil_n
                subst e1
                subst e2
                obtain rfl : i = 0 := by omega
                go_simp
              · go_simp
                by_cases hcc : cap = i <;> simp [hcc]
            refine stepsAll_cons (k := 18) ?_ ?_
            · intro fa fx fW fy hF hN hJ hE K fK
              have hJ : G (fy 1) (fy 8) (fy 10) (fy 11) (fy 18) fW := hJ
              have q11 : (FactS.any : FactS S_).p (fx 11) fW := by have q := (hE ⟨11, .data⟩ (by simp) rfl).2; rw [hT] at q; exact q
              have y11 : fy 11 = some (fx 11) := (hE ⟨11, .data⟩ (by simp) rfl).1
              have q17 : fx 17 = .slice A17 (n - i) (cap - i) := by have q := (hE ⟨17, .data⟩ (by simp) rfl).2; rw [hT] at q; exact q
              have ev60 : fa.tmps[60]?.getD undef = fx 11 := hF.ev 11 60 (by kernel_rfl)
              have ev66 : fa.tmps[66]?.getD undef = .slice A17 (n - i) (cap - i) := (hF.ev 17 66 (by kernel_rfl)).trans q17
              rw [hG, hN, y11] at hJ
              obtain ⟨⟨i1, i2, i3⟩, j1, j2, j3, j4⟩ := hJ
              have k1 := j1 rfl
              have ho := k1.hd _ rfl
              have hrA := j2.rds hr17.out hAS17
              refine wpOp_list rfl (apn (w0 := fW) B rfl _ _ 22 3 _ 1 8 (by rfl) Try.underlying22 info_hint rfl (by decide) (by decide) (fx 11) (i + 1) (nums .i64 ((zs ids).take i) ++ [.int .i64 (x : Nat)]) A17 (n - i) (cap - i) (nums .i64 ((zs ids).drop i)) (by clear fK hE hF hN i1 i2 i3 j1 j2 j3 j4 k1; go_simp) (by clear fK hE hF hN i1 i2 i3 j1 j2 j3 j4 k1; go_simp) hrA (nums_one _ _) ho (Below.refl _ _) k1.hB (by omega) ?_)
              intro v1 w1 p1 p2 p3 p4
              have hch : Chg S0 fW w1 := Chg.of_grown p3 (fun k e => by rw [hS0]; exact own_base ho k e)
              refine fK _ _ (by rw [hS_]; exact hch) (by rw [hT]; exact trivial) ?_
              show G (fy 1) (fy 8) (fy 10) (fy 11) (some v1) w1
              rw [hG, y11]
              exact ⟨⟨i1, (fun _ => i2 rfl), (fun _ => rfl)⟩, (fun e => by cases e), j2.trans hch, Nat.le_trans j3 hch.size, fun u e => by cases e; exact p1⟩
            refine stepsAll_cons (k := 19) ?_ ?_
            · intro fa fx fW fy hF hN hJ hE K fK
              have hJ : G (fy 1) (fy 8) (fy 10) (fy 11) (fy 18) fW := hJ
              have q0 : fx 0 = .pointer (some ⟨mb, 0, none⟩) := by have q := (hE ⟨0, .data⟩ (by simp) rfl).2; rw [hT] at q; exact q
              have ev49 : fa.tmps[49]?.getD undef = .pointer (some ⟨mb, 0, none⟩) := (hF.ev 0 49 (by kernel_rfl)).trans q0
              refine wpOp_val rfl (wanted_none rfl) ?_ (fK (.pointer (some ⟨mb, 0, none⟩)) fW (hR_ fW) (by rw [hT]; exact rfl) (hP_ 19 _ fy fW rfl hJ))
              clear fK hE hF hJ hN
              go_simp
            refine stepsAll_cons (k := 20) ?_ ?_
            · intro fa fx fW fy hF hN hJ hE K fK
              have hJ : G (fy 1) (fy 8) (fy 10) (fy 11) (fy 18) fW := hJ
              have q19 : fx 19 = .pointer (some ⟨mb, 0, none⟩) := by have q := (hE ⟨19, .data⟩ (by simp) rfl).2; rw [hT] at q; exact q
              have ev68 : fa.tmps[68]?.getD undef = .pointer (some ⟨mb, 0, none⟩) := (hF.ev 19 68 (by kernel_rfl)).trans q19
              refine wpOp_val rfl (wanted_none rfl) ?_ (fK (.pointer (some ⟨mb, 1, none⟩)) fW (hR_ fW) (by rw [hT]; exact rfl) (hP_ 20 _ fy fW rfl hJ))
              clear fK hE hF hJ hN
              go_simp
            exact stepsAll_nil
          intro fa fx fW fy hF hJ0 hx
          have y1 : fy 1 = some (fx 1) := (hx 1 (by decide)).1
          have y8 : fy 8 = some (fx 8) := (hx 8 (by decide)).1
          have y10 : fy 10 = some (fx 10) := (hx 10 (by decide)).1
          have y11 : fy 11 = some (fx 11) := (hx 11 (by decide)).1
          have y18 : fy 18 = some (fx 18) := (hx 18 (by decide)).1
          have hJ : G (fy 1) (fy 8) (fy 10) (fy 11) (fy 18) fW := hJ0
          clear hJ0
          rw [y1, y8, y10, y11, y18] at hJ
          have q18 : (FactS.any : FactS S_).p (fx 18) fW := by have q := (hx 18 (by decide)).2; rw [hT] at q; exact q
          have ev67 : fa.tmps[67]?.getD undef = fx 18 := hF.ev 18 67 (by kernel_rfl)
          have q20 : fx 20 = .pointer (some ⟨mb, 1, none⟩) := by have q := (hx 20 (by decide)).2; rw [hT] at q; exact q
          have ev69 : fa.tmps[69]?.getD undef = .pointer (some ⟨mb, 1, none⟩) := (hF.ev 20 69 (by kernel_rfl)).trans q20
          rw [hG] at hJ
          obtain ⟨_, _, jc, jb, jo⟩ := hJ
          have ho := jo _ rfl
          have hbz := hbx.keep jc hbS
          have c0 := hbz.cell
          have f0 := hbz.free
          obtain ⟨Ae, ce, hse⟩ := own_slice ho
          refine wpOp_fin rfl (wanted_none rfl) rfl (W' := fW.setCell ⟨mb, 1, none⟩ (fx 18)) ?_ ?_
          · clear hF hx
            rw [hse] at ev67 ⊢
            go_simp
          refine tail_end ?_
          rw [hF.eq]
          clear hF hx hT T hP_ hR_ y1 y8 y10 y11 y18
          simp only [putAll, Act.put, List.setIfInBounds_toArray, List.set_cons_zero, List.set_cons_succ, ]
          have hbel : Below W5.heap.size W5 fW := jc.toBelow (Below.refl _ _) (Nat.le_refl _) (fun k e => by rw [hS0] at e; omega)
          obtain ⟨s0, s1, s2, s3, s4, s5, s6⟩ := rf_set1 HNL.out HRF.out hbel hB ho
          have HLB := Lib.hid HRF.out.lb
          have HC6 : Hid (Chg (fun k => k = mb) w (fW.setCell ⟨mb, 1, none⟩ (fx 18))) := (Chg.of_below (below_then HB5.out HB5.out.size hbel)).setCell _ _ _ rfl
          have HU1 : Hid (∀ k, (fx 18).ownBlock = some k → w.heap.size ≤ k) := Lib.hid (fun k e => Nat.le_trans HB5.out.size (s6 k e))
          obtain ⟨u1, hu1⟩ : ∃ u, u = fx 18 := ⟨_, rfl⟩
          rw [← hu1] at s0 s1 s2 s3 s4 s5 HC6 HU1 ⊢
          have HS0 := Lib.hid s0
          have HS1 := Lib.hid s1
          have HS2 := Lib.hid s2
          have HS3 := Lib.hid s3
          have HS4 := Lib.hid s4
          have HS5 := Lib.hid s5
          clear s0 s1 s2 s3 s4 s5 s6 hbel ho jc jb jo hbz c0 f0 hse hu1 hbx hcapn hAS hAS17 hr7 hr17 HA17 hbS HR5 HRF HB5
          generalize fW.setCell ⟨mb, 1, none⟩ u1 = W6 at HS0 HS1 HS2 HS3 HS4 HC6 ⊢
          clear hB hS0 hG
          obtain ⟨W5, rfl⟩ : ∃ x, x = W6 := ⟨_, rfl⟩
          have HRF : Hid (Rk W5 base mb most (.slice A2 n cap2) n keys) := Lib.hid ⟨HS0.out, HS2.out, HS4.out⟩
          go_wp2_with fail
          have hr5 := (own_rds' HRF.out.ko).2
          have HR5 := Lib.hid hr5
          clear hr5
          obtain ⟨B, hB⟩ : ∃ B, B = W5.heap.size := ⟨_, rfl⟩
          obtain ⟨S0, hS0⟩ : ∃ S0 : Nat → Prop, S0 = fun k => B ≤ k := ⟨_, rfl⟩
          have hbS : ¬ S0 mb := by rw [hS0]; have := HRF.out.mo.lt; omega
          have hAS : ∀ ad, A2 = some ad → ¬ S0 ad.block := fun ad e => by
            rw [hS0]
            have h1 := HRF.out.ko.lt ad.block (by rw [e]; rfl)
            omega
          have hr7 := Lib.hid (HR5.out.take_ i hin)
          rw [Nat.mul_one, nums_takeI] at hr7
          have hr17 := Lib.hid (HR5.out.restI hin)
          rw [nums_dropI] at hr17
          obtain ⟨A17, hA17⟩ : ∃ A17, A17 = A2.map (fun ad => if cap2 = i then ad else ad.add i) := ⟨_, rfl⟩
          rw [← hA17] at hr17
          have HA17 := Lib.hid hA17
          have hAS17 : ∀ ad, A17 = some ad → ¬ S0 ad.block := fun ad e => by
            rw [hA17] at e
            cases hAA : A2 with
            | none => rw [hAA] at e; cases e
            | some ad0 =>
              rw [hAA] at e
              have h2 := hAS ad0 hAA
              have h3 : (if cap2 = i then ad0 else ad0.add i) = ad := by simpa using e
              rw [← h3]
              split
              · exact h2
              · have h4 : (ad0.add i).block = ad0.block := by unfold Addr.add; split <;> rfl
                rw [h4]
                exact h2
          clear hA17
          have hcapn : n ≤ cap2 := HR5.out.le
          have hbx := HRF.out.kb
          obtain ⟨G, hG⟩ : ∃ G : Option Value → Option Value → Option Value → Option Value → Option Value → World → Prop, ∀ xx aa ll dd ee W, G xx aa ll dd ee W = (((aa.isSome = true → xx.isSome = true) ∧ (dd.isSome = true → aa.isSome = true ∧ ll.isSome = true) ∧ (ee.isSome = true → dd.isSome = true)) ∧ (ee = none → Ch2 3 1 B i 1 (nums .i64 (keys.take i)) [.int .i64 key] xx aa ll dd W) ∧ Chg S0 W5 W ∧ B ≤ W.heap.size ∧ (∀ u, ee = some u → W.ownsRow B 3 1 u (i + 1 + (n - i)) (nums .i64 (keys.take i) ++ [.int .i64 key] ++ nums .i64 (keys.drop i)))) := ⟨_, fun _ _ _ _ _ _ => rfl⟩
          obtain ⟨S_, hS_⟩ : ∃ S_ : World → World → Prop, S_ = (Chg S0) := ⟨_, rfl⟩
          have hR_ : ∀ W, S_ W W := by intro W; rw [hS_]; exact Chg.refl _ _
          obtain ⟨T, hT⟩ : ∃ T : Nat → FactS S_, ∀ t_, T t_ = ([FactS.eq (.pointer (some ⟨mb, 0, none⟩)), FactS.any, FactS.eq (.pointer (some ⟨mb, 0, none⟩)), FactS.eq (.pointer (some ⟨mb, 0, none⟩)), FactS.eq (.pointer (some ⟨mb, 2, none⟩)), FactS.eq (.slice A2 n cap2), FactS.eq (.int .i64 i), FactS.eq (.slice A2 i cap2), FactS.any, FactS.eq (.int .i64 key), FactS.any, FactS.any, FactS.eq (.pointer (some ⟨mb, 0, none⟩)), FactS.eq (.pointer (some ⟨mb, 0, none⟩)), FactS.eq (.pointer (some ⟨mb, 2, none⟩)), FactS.eq (.slice A2 n cap2), FactS.eq (.int .i64 i), FactS.eq (.slice A17 (n - i) (cap2 - i)), FactS.any, FactS.eq (.pointer (some ⟨mb, 0, none⟩)), FactS.eq (.pointer (some ⟨mb, 2, none⟩)), FactS.eq (undef)] : List (FactS S_)).getD t_ FactS.any := ⟨_, fun _ => rfl⟩
          have hP_ : ∀ i_ v_ (y_ : Nat → Option Value) W_, ([1, 8, 10, 11, 18].contains i_) = false → G (y_ 1) (y_ 8) (y_ 10) (y_ 11) (y_ 18) W_ → G (updY y_ i_ v_ 1) (updY y_ i_ v_ 8) (updY y_ i_ v_ 10) (updY y_ i_ v_ 11) (updY y_ i_ v_ 18) W_ := by
            intro i_ v_ y_ W_ hi_ h_
            simp only [List.contains_cons, List.contains_nil, Bool.or_false, Bool.or_eq_false_iff, beq_eq_false_iff_ne, ne_eq] at hi_
            obtain ⟨i1_, i8_, i10_, i11_, i18_⟩ := hi_
            rw [updY_ne y_ i_ v_ i1_, updY_ne y_ i_ v_ i8_, updY_ne y_ i_ v_ i10_, updY_ne y_ i_ v_ i11_, updY_ne y_ i_ v_ i18_]
            exact h_
          refine region_tabU 21 [(0, 70), (1, 71), (2, 72), (3, 73), (4, 74), (5, 75), (6, 76), (7, 77), (8, 78), (9, 79), (10, 80), (11, 81), (12, 82), (13, 83), (14, 84), (15, 85), (16, 86), (17, 87), (18, 88), (19, 89), (20, 90)] T (fun y_ W_ => G (y_ 1) (y_ 8) (y_ 10) (y_ 11) (y_ 18) W_) (by kernel_rfl) (by kernel_rfl) (by kernel_rfl) (by kernel_rfl) (by kernel_rfl) (by kernel_rfl) (by kernel_rfl) ?_ ?_ ?_
          · skip
            show G none none none none none _
            rw [hG]
            exact ⟨⟨(fun h => by cases h), (fun h => by cases h), (fun h => by cases h)⟩, fun _ => Ch2.none_ (by rw [hB]; simp), (Chg.refl _ _).drewN 1, by rw [hB]; simp, fun u e => by cases e⟩
          · skip
            refine stepsAll_cons (k := 0) ?_ ?_
            · intro fa fx fW fy hF hN hJ hE K fK
              have hJ : G (fy 1) (fy 8) (fy 10) (fy 11) (fy 18) fW := hJ
              have ev0 : fa.tmps[0]?.getD undef = .pointer (some ⟨mb, 0, none⟩) := hF.eo 0 (by kernel_rfl)
              refine wpOp_val rfl (wanted_none rfl) ?_ (fK (.pointer (some ⟨mb, 0, none⟩)) fW (hR_ fW) (by rw [hT]; exact rfl) (hP_ 0 _ fy fW rfl hJ))
              clear fK hE hF hJ hN
              go_simp
            refine stepsAll_cons (k := 1) ?_ ?_
            · intro fa fx fW fy hF hN hJ hE K fK
              have hJ : G (fy 1) (fy 8) (fy 10) (fy 11) (fy 18) fW := hJ
              rw [hG, hN] at hJ
              obtain ⟨⟨i1, i2, i3⟩, j1, j2, j3, j4⟩ := hJ
              have a8 : fy 8 = none := by cases h : fy 8 with | none => rfl | some u => rw [h] at i1; exact absurd (i1 rfl) (by simp)
              have a11 : fy 11 = none := by cases h : fy 11 with | none => rfl | some u => rw [h, a8] at i2; exact absurd (i2 rfl).1 (by simp)
              have a18 : fy 18 = none := by cases h : fy 18 with | none => rfl | some u => rw [h, a11] at i3; exact absurd (i3 rfl) (by simp)
              have k1 := j1 a18
              rw [a8, a11] at k1
              have hal : Below fW.heap.size fW (fW.alloc (.cells #[] 3)) := below_al (Below.refl _ _) _
              refine wpOp_to rfl (wanted_none rfl) (v := .slice (some ⟨fW.heap.size, 0, none⟩) 0 0) (W' := fW.alloc (.cells #[] 3)) (by clear fK hE hF hN i1 i2 i3 j1 j2 j3 j4 k1; go_simp) (fK _ _ (by rw [hS_]; exact Chg.of_below hal) (by rw [hT]; exact trivial) ?_)
              show G (some _) (fy 8) (fy 10) (fy 11) (fy 18) _
              rw [hG, a8, a11, a18]
              exact ⟨⟨(fun h => by cases h), (fun h => by cases h), (fun h => by cases h)⟩, fun _ => k1.x_, j2.trans (Chg.of_below hal), Nat.le_trans j3 hal.size, fun u e => by cases e⟩
            refine stepsAll_cons (k := 2) ?_ ?_
            · intro fa fx fW fy hF hN hJ hE K fK
              have hJ : G (fy 1) (fy 8) (fy 10) (fy 11) (fy 18) fW := hJ
              have ev0 : fa.tmps[0]?.getD undef = .pointer (some ⟨mb, 0, none⟩) := hF.eo 0 (by kernel_rfl)
              refine wpOp_val rfl (wanted_none rfl) ?_ (fK (.pointer (some ⟨mb, 0, none⟩)) fW (hR_ fW) (by rw [hT]; exact rfl) (hP_ 2 _ fy fW rfl hJ))
              clear fK hE hF hJ hN
              go_simp
            refine stepsAll_cons (k := 3) ?_ ?_
            · intro fa fx fW fy hF hN hJ hE K fK
              have hJ : G (fy 1) (fy 8) (fy 10) (fy 11) (fy 18) fW := hJ
              have q2 : fx 2 = .pointer (some ⟨mb, 0, none⟩) := by have q := (hE ⟨2, .data⟩ (by simp) rfl).2; rw [hT] at q; exact q
              have ev72 : fa.tmps[72]?.getD undef = .pointer (some ⟨mb, 0, none⟩) := (hF.ev 2 72 (by kernel_rfl)).trans q2
              refine wpOp_val rfl (wanted_none rfl) ?_ (fK (.pointer (some ⟨mb, 0, none⟩)) fW (hR_ fW) (by rw [hT]; exact rfl) (hP_ 3 _ fy fW rfl hJ))
              clear fK hE hF hJ hN
              go_simp
            refine stepsAll_cons (k := 4) ?_ ?_
            · intro fa fx fW fy hF hN hJ hE K fK
              have hJ : G (fy 1) (fy 8) (fy 10) (fy 11) (fy 18) fW := hJ
              have q3 : fx 3 = .pointer (some ⟨mb, 0, none⟩) := by have q := (hE ⟨3, .data⟩ (by simp) rfl).2; rw [hT] at q; exact q
              have ev73 : fa.tmps[73]?.getD undef = .pointer (some ⟨mb, 0, none⟩) := (hF.ev 3 73 (by kernel_rfl)).trans q3
              refine wpOp_val rfl (wanted_none rfl) ?_ (fK (.pointer (some ⟨mb, 2, none⟩)) fW (hR_ fW) (by rw [hT]; exact rfl) (hP_ 4 _ fy fW rfl hJ))
              clear fK hE hF hJ hN
              go_simp
            refine stepsAll_cons (k := 5) ?_ ?_
            · intro fa fx fW fy hF hN hJ hE K fK
              have hJ : G (fy 1) (fy 8) (fy 10) (fy 11) (fy 18) fW := hJ
              have q4 : fx 4 = .pointer (some ⟨mb, 2, none⟩) := by have q := (hE ⟨4, .data⟩ (by simp) rfl).2; rw [hT] at q; exact q
              have ev74 : fa.tmps[74]?.getD undef = .pointer (some ⟨mb, 2, none⟩) := (hF.ev 4 74 (by kernel_rfl)).trans q4
              have hJ1 := hJ
              rw [hG] at hJ1
              have k0 := (hbx.keep hJ1.2.2.1 hbS).cell
              clear hJ1
              refine wpOp_val rfl (wanted_none rfl) ?_ (fK (.slice A2 n cap2) fW (hR_ fW) (by rw [hT]; exact rfl) (hP_ 5 _ fy fW rfl hJ))
              clear fK hE hF hJ hN
              go_simp
            refine stepsAll_cons (k := 6) ?_ ?_
            · intro fa fx fW fy hF hN hJ hE K fK
              have hJ : G (fy 1) (fy 8) (fy 10) (fy 11) (fy 18) fW := hJ
              have ev6 : fa.tmps[6]?.getD undef = .int .i64 i := hF.eo 6 (by kernel_rfl)
              refine wpOp_val rfl (wanted_none rfl) ?_ (fK (.int .i64 i) fW (hR_ fW) (by rw [hT]; exact rfl) (hP_ 6 _ fy fW rfl hJ))
              clear fK hE hF hJ hN
              go_simp
            refine stepsAll_cons (k := 7) ?_ ?_
            · intro fa fx fW fy hF hN hJ hE K fK
              have hJ : G (fy 1) (fy 8) (fy 10) (fy 11) (fy 18) fW := hJ
              have q5 : fx 5 = .slice A2 n cap2 := by have q := (hE ⟨5, .data⟩ (by simp) rfl).2; rw [hT] at q; exact q
              have q6 : fx 6 = .int .i64 i := by have q := (hE ⟨6, .data⟩ (by simp) rfl).2; rw [hT] at q; exact q
              have ev75 : fa.tmps[75]?.getD undef = .slice A2 n cap2 := (hF.ev 5 75 (by kernel_rfl)).trans q5
              have ev76 : fa.tmps[76]?.getD undef = .int .i64 i := (hF.ev 6 76 (by kernel_rfl)).trans q6
              refine wpOp_val rfl (wanted_none rfl) ?_ (fK (.slice A2 i cap2) fW (hR_ fW) (by rw [hT]; exact rfl) (hP_ 7 _ fy fW rfl hJ))
              clear fK hE hF hJ hN
              rcases A2 with _ | ad0
              · obtain ⟨e1, e2, _⟩ := HR5.out.nil_n
                subst e1
                subst e2
                obtain rfl : i = 0 := by omega
                go_simp
              · go_simp
                all_goals first | omega | (intro h; omega)
            refine stepsAll_cons (k := 8) ?_ ?_
            · intro fa fx fW fy hF hN hJ hE K fK
              have hJ : G (fy 1) (fy 8) (fy 10) (fy 11) (fy 18) fW := hJ
              have q1 : (FactS.any : FactS S_).p (fx 1) fW := by have q := (hE ⟨1, .data⟩ (by simp) rfl).2; rw [hT] at q; exact q
              have y1 : fy 1 = some (fx 1) := (hE ⟨1, .data⟩ (by simp) rfl).1
              have q7 : fx 7 = .slice A2 i cap2 := by have q := (hE ⟨7, .data⟩ (by simp) rfl).2; rw [hT] at q; exact q
              have ev71 : fa.tmps[71]?.getD undef = fx 1 := hF.ev 1 71 (by kernel_rfl)
              have ev77 : fa.tmps[77]?.getD undef = .slice A2 i cap2 := (hF.ev 7 77 (by kernel_rfl)).trans q7
              rw [hG, hN, y1] at hJ
              obtain ⟨⟨i1, i2, i3⟩, j1, j2, j3, j4⟩ := hJ
              have a11 : fy 11 = none := by cases h : fy 11 with | none => rfl | some u => rw [h] at i2; exact absurd (i2 rfl).1 (by simp)
              have a18 : fy 18 = none := by cases h : fy 18 with | none => rfl | some u => rw [h, a11] at i3; exact absurd (i3 rfl) (by simp)
              have k1 := j1 a18
              rw [a11] at k1
              have ho := k1.hx _ rfl rfl
              have hrA := j2.rds hr7.out hAS
              refine wpOp_list rfl (apn (w0 := fW) B rfl _ _ 22 3 _ 1 8 (by rfl) Try.underlying22 info_hint rfl (by decide) (by decide) (fx 1) 0 [] _ i cap2 (nums .i64 (keys.take i)) (by clear fK hE hF hN i1 i2 i3 j1 j2 j3 j4 k1; go_simp) (by clear fK hE hF hN i1 i2 i3 j1 j2 j3 j4 k1; go_simp) hrA (nums_one _ _) ho (Below.refl _ _) k1.hB (by omega) ?_)
              intro v1 w1 p1 p2 p3 p4
              rw [Nat.zero_add, List.nil_append] at p1
              have hch : Chg S0 fW w1 := Chg.of_grown p3 (fun k e => by rw [hS0]; exact own_base ho k e)
              refine fK _ _ (by rw [hS_]; exact hch) (by rw [hT]; exact trivial) ?_
              show G (fy 1) (some v1) (fy 10) (fy 11) (fy 18) w1
              rw [hG, a11, a18, y1]
              exact ⟨⟨(fun _ => rfl), (fun h => by cases h), (fun h => by cases h)⟩, fun _ => k1.a_ p1 p3 p4, j2.trans hch, Nat.le_trans j3 hch.size, fun u e => by cases e⟩
            refine stepsAll_cons (k := 9) ?_ ?_
            · intro fa fx fW fy hF hN hJ hE K fK
              have hJ : G (fy 1) (fy 8) (fy 10) (fy 11) (fy 18) fW := hJ
              have ev2 : fa.tmps[2]?.getD undef = .int .i64 key := hF.eo 2 (by kernel_rfl)
              refine wpOp_val rfl (wanted_none rfl) ?_ (fK (.int .i64 key) fW (hR_ fW) (by rw [hT]; exact rfl) (hP_ 9 _ fy fW rfl hJ))
              clear fK hE hF hJ hN
              go_simp
            refine stepsAll_cons (k := 10) ?_ ?_
            · intro fa fx fW fy hF hN hJ hE K fK
              have hJ : G (fy 1) (fy 8) (fy 10) (fy 11) (fy 18) fW := hJ
              have q9 : fx 9 = .int .i64 key := by have q := (hE ⟨9, .data⟩ (by simp) rfl).2; rw [hT] at q; exact q
              have ev79 : fa.tmps[79]?.getD undef = .int .i64 key := (hF.ev 9 79 (by kernel_rfl)).trans q9
              rw [hG, hN] at hJ
              obtain ⟨⟨i1, i2, i3⟩, j1, j2, j3, j4⟩ := hJ
              have a11 : fy 11 = none := by cases h : fy 11 with | none => rfl | some u => rw [h] at i2; exact absurd (i2 rfl).2 (by simp)
              have a18 : fy 18 = none := by cases h : fy 18 with | none => rfl | some u => rw [h, a11] at i3; exact absurd (i3 rfl) (by simp)
              have k1 := j1 a18
              rw [a11] at k1
              have hal : Below fW.heap.size fW (fW.alloc (.cells [.int .i64 key].toArray 3)) := below_al (Below.refl _ _) _
              refine wpOp_to rfl (wanted_none rfl) (v := .slice (some ⟨fW.heap.size, 0, none⟩) 1 1) (W' := fW.alloc (.cells [.int .i64 key].toArray 3)) (by clear fK hE hF hN i1 i2 i3 j1 j2 j3 j4 k1; go_simp) (fK _ _ (by rw [hS_]; exact Chg.of_below hal) (by rw [hT]; exact trivial) ?_)
              show G (fy 1) (fy 8) (some _) (fy 11) (fy 18) _
              rw [hG, a11, a18]
              exact ⟨⟨i1, (fun h => by cases h), (fun h => by cases h)⟩, fun _ => k1.l_ rfl, j2.trans (Chg.of_below hal), Nat.le_trans j3 hal.size, fun u e => by cases e⟩
            refine stepsAll_cons (k := 11) ?_ ?_
            · intro fa fx fW fy hF hN hJ hE K fK
              have hJ : G (fy 1) (fy 8) (fy 10) (fy 11) (fy 18) fW := hJ
              have q8 : (FactS.any : FactS S_).p (fx 8) fW := by have q := (hE ⟨8, .data⟩ (by simp) rfl).2; rw [hT] at q; exact q
              have y8 : fy 8 = some (fx 8) := (hE ⟨8, .data⟩ (by simp) rfl).1
              have q10 : (FactS.any : FactS S_).p (fx 10) fW := by have q := (hE ⟨10, .data⟩ (by simp) rfl).2; rw [hT] at q; exact q
              have y10 : fy 10 = some (fx 10) := (hE ⟨10, .data⟩ (by simp) rfl).1
              have ev78 : fa.tmps[78]?.getD undef = fx 8 := hF.ev 8 78 (by kernel_rfl)
              have ev80 : fa.tmps[80]?.getD undef = fx 10 := hF.ev 10 80 (by kernel_rfl)
              rw [hG, hN, y8, y10] at hJ
              obtain ⟨⟨i1, i2, i3⟩, j1, j2, j3, j4⟩ := hJ
              have a18 : fy 18 = none := by cases h : fy 18 with | none => rfl | some u => rw [h] at i3; exact absurd (i3 rfl) (by simp)
              have k1 := j1 a18
              have ho := k1.ha _ rfl rfl
              obtain ⟨gl, hl1, hl2, hl3, _, _⟩ := k1.hl _ rfl rfl
              refine wpOp_list rfl (apn (w0 := fW) B rfl _ _ 22 3 _ 1 8 (by rfl) Try.underlying22 info_hint rfl (by decide) (by decide) (fx 8) i (nums .i64 (keys.take i)) (some ⟨gl, 0, none⟩) 1 1 [.int .i64 key] (by clear fK hE hF hN i1 i2 i3 j1 j2 j3 j4 k1; go_simp) (by clear fK hE hF hN i1 i2 i3 j1 j2 j3 j4 k1; rw [hl1] at ev80; go_simp) hl3 (by intro u hu; simp at hu; subst hu; rfl) ho (Below.refl _ _) k1.hB (by omega) ?_)
              intro v1 w1 p1 p2 p3 p4
              have hch : Chg S0 fW w1 := Chg.of_grown p3 (fun k e => by rw [hS0]; exact own_base ho k e)
              refine fK _ _ (by rw [hS_]; exact hch) (by rw [hT]; exact trivial) ?_
              show G (fy 1) (fy 8) (fy 10) (some v1) (fy 18) w1
              rw [hG, a18, y8, y10]
              exact ⟨⟨(fun _ => i1 rfl), (fun _ => ⟨rfl, rfl⟩), (fun h => by cases h)⟩, fun _ => k1.d_ hch.size p1, j2.trans hch, Nat.le_trans j3 hch.size, fun u e => by cases e⟩
            refine stepsAll_cons (k := 12) ?_ ?_
            · intro fa fx fW fy hF hN hJ hE K fK
              have hJ : G (fy 1) (fy 8) (fy 10) (fy 11) (fy 18) fW := hJ
              have ev0 : fa.tmps[0]?.getD undef = .pointer (some ⟨mb, 0, none⟩) := hF.eo 0 (by kernel_rfl)
              refine wpOp_val rfl (wanted_none rfl) ?_ (fK (.pointer (some ⟨mb, 0, none⟩)) fW (hR_ fW) (by rw [hT]; exact rfl) (hP_ 12 _ fy fW rfl hJ))
              clear fK hE hF hJ hN
              go_simp
            refine stepsAll_cons (k := 13) ?_ ?_
            · intro fa fx fW fy hF hN hJ hE K fK
              have hJ : G (fy 1) (fy 8) (fy 10) (fy 11) (fy 18) fW := hJ
              have q12 : fx 12 = .pointer (some ⟨mb, 0, none⟩) := by have q := (hE ⟨12, .data⟩ (by simp) rfl).2; rw [hT] at q; exact q
              have ev82 : fa.tmps[82]?.getD undef = .pointer (some ⟨mb, 0, none⟩) := (hF.ev 12 82 (by kernel_rfl)).trans q12
              refine wpOp_val rfl (wanted_none rfl) ?_ (fK (.pointer (some ⟨mb, 0, none⟩)) fW (hR_ fW) (by rw [hT]; exact rfl) (hP_ 13 _ fy fW rfl hJ))
              clear fK hE hF hJ hN
              go_simp
            refine stepsAll_cons (k := 14) ?_ ?_
            · intro fa fx fW fy hF hN hJ hE K fK
              have hJ : G (fy 1) (fy 8) (fy 10) (fy 11) (fy 18) fW := hJ
              have q13 : fx 13 = .pointer (some ⟨mb, 0, none⟩) := by have q := (hE ⟨13, .data⟩ (by simp) rfl).2; rw [hT] at q; exact q
              have ev83 : fa.tmps[83]?.getD undef = .pointer (some ⟨mb, 0, none⟩) := (hF.ev 13 83 (by kernel_rfl)).trans q13
              refine wpOp_val rfl (wanted_none rfl) ?_ (fK (.pointer (some ⟨mb, 2, none⟩)) fW (hR_ fW) (by rw [hT]; exact rfl) (hP_ 14 _ fy fW rfl hJ))
              clear fK hE hF hJ hN
              go_simp
            refine stepsAll_cons (k := 15) ?_ ?_
            · intro fa fx fW fy hF hN hJ hE K fK
              have hJ : G (fy 1) (fy 8) (fy 10) (fy 11) (fy 18) fW := hJ
              have q14 : fx 14 = .pointer (some ⟨mb, 2, none⟩) := by have q := (hE ⟨14, .data⟩ (by simp) rfl).2; rw [hT] at q; exact q
              have ev84 : fa.tmps[84]?.getD undef = .pointer (some ⟨mb, 2, none⟩) := (hF.ev 14 84 (by kernel_rfl)).trans q14
              have hJ1 := hJ
              rw [hG] at hJ1
              have k0 := (hbx.keep hJ1.2.2.1 hbS).cell
              clear hJ1
              refine wpOp_val rfl (wanted_none rfl) ?_ (fK (.slice A2 n cap2) fW (hR_ fW) (by rw [hT]; exact rfl) (hP_ 15 _ fy fW rfl hJ))
              clear fK hE hF hJ hN
              go_simp
            refine stepsAll_cons (k := 16) ?_ ?_
            · intro fa fx fW fy hF hN hJ hE K fK
              have hJ : G (fy 1) (fy 8) (fy 10) (fy 11) (fy 18) fW := hJ
              have ev6 : fa.tmps[6]?.getD undef = .int .i64 i := hF.eo 6 (by kernel_rfl)
              refine wpOp_val rfl (wanted_none rfl) ?_ (fK (.int .i64 i) fW (hR_ fW) (by rw [hT]; exact rfl) (hP_ 16 _ fy fW rfl hJ))
              clear fK hE hF hJ hN
              go_simp
            refine stepsAll_cons (k := 17) ?_ ?_
            · intro fa fx fW fy hF hN hJ hE K fK
              have hJ : G (fy 1) (fy 8) (fy 10) (fy 11) (fy 18) fW := hJ
              have q15 : fx 15 = .slice A2 n cap2 := by have q := (hE ⟨15, .data⟩ (by simp) rfl).2; rw [hT] at q; exact q
              have q16 : fx 16 = .int .i64 i := by have q := (hE ⟨16, .data⟩ (by simp) rfl).2; rw [hT] at q; exact q
              have ev85 : fa.tmps[85]?.getD undef = .slice A2 n cap2 := (hF.ev 15 85 (by kernel_rfl)).trans q15
              have ev86 : fa.tmps[86]?.getD undef = .int .i64 i := (hF.ev 16 86 (by kernel_rfl)).trans q16
              refine wpOp_val rfl (wanted_none rfl) ?_ (fK (.slice A17 (n - i) (cap2 - i)) fW (hR_ fW) (by rw [hT]; exact rfl) (hP_ 17 _ fy fW rfl hJ))
              clear fK hE hF hJ hN
              rw [HA17.out]
              rcases A2 with _ | ad0
              · obtain ⟨e1, e2, _⟩ := HR5.out.nil_n
                subst e1
                subst e2
                obtain rfl : i = 0 := by omega
                go_simp
              · go_simp
                by_cases hcc : cap2 = i <;> simp [hcc]
            refine stepsAll_cons (k := 18) ?_ ?_
            · intro fa fx fW fy hF hN hJ hE K fK
              have hJ : G (fy 1) (fy 8) (fy 10) (fy 11) (fy 18) fW := hJ
              have q11 : (FactS.any : FactS S_).p (fx 11) fW := by have q := (hE ⟨11, .data⟩ (by simp) rfl).2; rw [hT] at q; exact q
              have y11 : fy 11 = some (fx 11) := (hE ⟨11, .data⟩ (by simp) rfl).1
              have q17 : fx 17 = .slice A17 (n - i) (cap2 - i) := by have q := (hE ⟨17, .data⟩ (by simp) rfl).2; rw [hT] at q; exact q
              have ev81 : fa.tmps[81]?.getD undef = fx 11 := hF.ev 11 81 (by kernel_rfl)
              have ev87 : fa.tmps[87]?.getD undef = .slice A17 (n - i) (cap2 - i) := (hF.ev 17 87 (by kernel_rfl)).trans q17
              rw [hG, hN, y11] at hJ
              obtain ⟨⟨i1, i2, i3⟩, j1, j2, j3, j4⟩ := hJ
              have k1 := j1 rfl
              have ho := k1.hd _ rfl
              have hrA := j2.rds hr17.out hAS17
              refine wpOp_list rfl (apn (w0 := fW) B rfl _ _ 22 3 _ 1 8 (by rfl) Try.underlying22 info_hint rfl (by decide) (by decide) (fx 11) (i + 1) (nums .i64 (keys.take i) ++ [.int .i64 key]) A17 (n - i) (cap2 - i) (nums .i64 (keys.drop i)) (by clear fK hE hF hN i1 i2 i3 j1 j2 j3 j4 k1; go_simp) (by clear fK hE hF hN i1 i2 i3 j1 j2 j3 j4 k1; go_simp) hrA (nums_one _ _) ho (Below.refl _ _) k1.hB (by omega) ?_)
              intro v1 w1 p1 p2 p3 p4
              have hch : Chg S0 fW w1 := Chg.of_grown p3 (fun k e => by rw [hS0]; exact own_base ho k e)
              refine fK _ _ (by rw [hS_]; exact hch) (by rw [hT]; exact trivial) ?_
              show G (fy 1) (fy 8) (fy 10) (fy 11) (some v1) w1
              rw [hG, y11]
              exact ⟨⟨i1, (fun _ => i2 rfl), (fun _ => rfl)⟩, (fun e => by cases e), j2.trans hch, Nat.le_trans j3 hch.size, fun u e => by cases e; exact p1⟩
            refine stepsAll_cons (k := 19) ?_ ?_
            · intro fa fx fW fy hF hN hJ hE K fK
              have hJ : G (fy 1) (fy 8) (fy 10) (fy 11) (fy 18) fW := hJ
              have q0 : fx 0 = .pointer (some ⟨mb, 0, none⟩) := by have q := (hE ⟨0, .data⟩ (by simp) rfl).2; rw [hT] at q; exact q
              have ev70 : fa.tmps[70]?.getD undef = .pointer (some ⟨mb, 0, none⟩) := (hF.ev 0 70 (by kernel_rfl)).trans q0
              refine wpOp_val rfl (wanted_none rfl) ?_ (fK (.pointer (some ⟨mb, 0, none⟩)) fW (hR_ fW) (by rw [hT]; exact rfl) (hP_ 19 _ fy fW rfl hJ))
              clear fK hE hF hJ hN
              go_simp
            refine stepsAll_cons (k := 20) ?_ ?_
            · intro fa fx fW fy hF hN hJ hE K fK
              have hJ : G (fy 1) (fy 8) (fy 10) (fy 11) (fy 18) fW := hJ
              have q19 : fx 19 = .pointer (some ⟨mb, 0, none⟩) := by have q := (hE ⟨19, .data⟩ (by simp) rfl).2; rw [hT] at q; exact q
              have ev89 : fa.tmps[89]?.getD undef = .pointer (some ⟨mb, 0, none⟩) := (hF.ev 19 89 (by kernel_rfl)).trans q19
              refine wpOp_val rfl (wanted_none rfl) ?_ (fK (.pointer (some ⟨mb, 2, none⟩)) fW (hR_ fW) (by rw [hT]; exact rfl) (hP_ 20 _ fy fW rfl hJ))
              clear fK hE hF hJ hN
              go_simp
            exact stepsAll_nil
          intro fa fx fW fy hF hJ0 hx
          have y1 : fy 1 = some (fx 1) := (hx 1 (by decide)).1
          have y8 : fy 8 = some (fx 8) := (hx 8 (by decide)).1
          have y10 : fy 10 = some (fx 10) := (hx 10 (by decide)).1
          have y11 : fy 11 = some (fx 11) := (hx 11 (by decide)).1
          have y18 : fy 18 = some (fx 18) := (hx 18 (by decide)).1
          have hJ : G (fy 1) (fy 8) (fy 10) (fy 11) (fy 18) fW := hJ0
          clear hJ0
          rw [y1, y8, y10, y11, y18] at hJ
          have q18 : (FactS.any : FactS S_).p (fx 18) fW := by have q := (hx 18 (by decide)).2; rw [hT] at q; exact q
          have ev88 : fa.tmps[88]?.getD undef = fx 18 := hF.ev 18 88 (by kernel_rfl)
          have q20 : fx 20 = .pointer (some ⟨mb, 2, none⟩) := by have q := (hx 20 (by decide)).2; rw [hT] at q; exact q
          have ev90 : fa.tmps[90]?.getD undef = .pointer (some ⟨mb, 2, none⟩) := (hF.ev 20 90 (by kernel_rfl)).trans q20
          rw [hG] at hJ
          obtain ⟨_, _, jc, jb, jo⟩ := hJ
          have ho := jo _ rfl
          have hbz := hbx.keep jc hbS
          have c0 := hbz.cell
          have f0 := hbz.free
          obtain ⟨Ae, ce, hse⟩ := own_slice ho
          refine wpOp_fin rfl (wanted_none rfl) rfl (W' := fW.setCell ⟨mb, 2, none⟩ (fx 18)) ?_ ?_
          · clear hF hx
            rw [hse] at ev88 ⊢
            go_simp
          refine tail_end ?_
          rw [hF.eq]
          clear hF hx hT T hP_ hR_ y1 y8 y10 y11 y18
          simp only [putAll, Act.put, List.setIfInBounds_toArray, List.set_cons_zero, List.set_cons_succ, ]
          have hbel : Below W5.heap.size W5 fW := jc.toBelow (Below.refl _ _) (Nat.le_refl _) (fun k e => by rw [hS0] at e; omega)
          have ho2 : fW.ownsRow B 3 1 (fx 18) (i + 1 + (n - i)) (nums .i64 (keys.take i ++ [key] ++ keys.drop i)) := by rw [nums_append, nums_append]; exact ho
          have HFIN := Lib.hid (rf_set2 (show (ids.take i ++ [x] ++ ids.drop i).length = i + 1 + (n - i) by simp only [List.length_append, List.length_take, List.length_drop, List.length_singleton]; rw [HNL.out]; omega) HS0.out HS1.out HS2.out HS3.out HS5.out HLB.out hbel hB ho2)
          have HC7 : Hid (Chg (fun k => k = mb) w (fW.setCell ⟨mb, 2, none⟩ (fx 18))) := (HC6.out.trans (Chg.of_below hbel)).setCell _ _ _ rfl
          have HU2 : Hid (∀ k, (fx 18).ownBlock = some k → w.heap.size ≤ k) := Lib.hid (fun k e => by have h1 := own_base ho2 k e; have h2 := HC6.out.size; omega)
          clear hbel ho ho2 jc jb jo hbz c0 f0 hse hbx hcapn hAS hAS17 hr7 hr17 HA17 hbS HR5 HRF hB hS0 hG
          go_wp2
          go_end0
          exact ⟨rfl, i, u1, fx 18, hin, HLO, HST, HFIN, HC7, Lib.hid (fun k h => h.elim (HU1.out k) (HU2.out k))⟩
    · have HST : Hid (i < n → ¬ (keys.getD i 0 < key ∨ (keys.getD i 0 = key ∧ ids.getD i 0 < x))) := Lib.hid (fun h => absurd h hlt)
      have hlt' : ¬ (i : Int) < (n : Int) := by omega
      have HRR := Lib.hid R1
      clear R1
      go_wp2_with fail
      clear k1 k2 hlt'
      have hin : i ≤ n := by omega
      have HRF := HRR
      clear HRR
      obtain ⟨W5, hW5⟩ : ∃ x, x = wr := ⟨_, rfl⟩
      rw [← hW5] at HRF ⊢
      have HB5 : Hid (Below w.heap.size w W5) := Lib.hid (by rw [hW5]; exact HB.out)
      clear hW5 HB
      have hr5 := (own_rds' HRF.out.io).2
      rw [HNL.out] at hr5
      have HR5 := Lib.hid hr5
      clear hr5
      obtain ⟨B, hB⟩ : ∃ B, B = W5.heap.size := ⟨_, rfl⟩
      obtain ⟨S0, hS0⟩ : ∃ S0 : Nat → Prop, S0 = fun k => B ≤ k := ⟨_, rfl⟩
      have hbS : ¬ S0 mb := by rw [hS0]; have := HRF.out.mo.lt; omega
      have hAS : ∀ ad, A = some ad → ¬ S0 ad.block := fun ad e => by
        rw [hS0]
        have h1 := HRF.out.io.lt ad.block (by rw [e]; rfl)
        omega
      have hr7 := Lib.hid (HR5.out.take_ i hin)
      rw [Nat.mul_one, nums_takeI] at hr7
      have hr17 := Lib.hid (HR5.out.restI hin)
      rw [nums_dropI] at hr17
      obtain ⟨A17, hA17⟩ : ∃ A17, A17 = A.map (fun ad => if cap = i then ad else ad.add i) := ⟨_, rfl⟩
      rw [← hA17] at hr17
      have HA17 := Lib.hid hA17
      have hAS17 : ∀ ad, A17 = some ad → ¬ S0 ad.block := fun ad e => by
        rw [hA17] at e
        cases hAA : A with
        | none => rw [hAA] at e; cases e
        | some ad0 =>
          rw [hAA] at e
          have h2 := hAS ad0 hAA
          have h3 : (if cap = i then ad0 else ad0.add i) = ad := by simpa using e
          rw [← h3]
          split
          · exact h2
          · have h4 : (ad0.add i).block = ad0.block := by unfold Addr.add; split <;> rfl
            rw [h4]
            exact h2
      clear hA17
      have hcapn : n ≤ cap := HR5.out.le
      have hbx := HRF.out.ib
      obtain ⟨G, hG⟩ : ∃ G : Option Value → Option Value → Option Value → Option Value → Option Value → World → Prop, ∀ xx aa ll dd ee W, G xx aa ll dd ee W = (((aa.isSome = true → xx.isSome = true) ∧ (dd.isSome = true → aa.isSome = true ∧ ll.isSome = true) ∧ (ee.isSome = true → dd.isSome = true)) ∧ (ee = none → Ch2 3 1 B i 1 (nums .i64 ((zs ids).take i)) [.int .i64 (x : Nat)] xx aa ll dd W) ∧ Chg S0 W5 W ∧ B ≤ W.heap.size ∧ (∀ u, ee = some u → W.ownsRow B 3 1 u (i + 1 + (n - i)) (nums .i64 ((zs ids).take i) ++ [.int .i64 (x : Nat)] ++ nums .i64 ((zs ids).drop i)))) := ⟨_, fun _ _ _ _ _ _ => rfl⟩
      obtain ⟨S_, hS_⟩ : ∃ S_ : World → World → Prop, S_ = (Chg S0) := ⟨_, rfl⟩
      have hR_ : ∀ W, S_ W W := by intro W; rw [hS_]; exact Chg.refl _ _
      obtain ⟨T, hT⟩ : ∃ T : Nat → FactS S_, ∀ t_, T t_ = ([FactS.eq (.pointer (some ⟨mb, 0, none⟩)), FactS.any, FactS.eq (.pointer (some ⟨mb, 0, none⟩)), FactS.eq (.pointer (some ⟨mb, 0, none⟩)), FactS.eq (.pointer (some ⟨mb, 1, none⟩)), FactS.eq (.slice A n cap), FactS.eq (.int .i64 i), FactS.eq (.slice A i cap), FactS.any, FactS.eq (.int .i64 (x : Nat)), FactS.any, FactS.any, FactS.eq (.pointer (some ⟨mb, 0, none⟩)), FactS.eq (.pointer (some ⟨mb, 0, none⟩)), FactS.eq (.pointer (some ⟨mb, 1, none⟩)), FactS.eq (.slice A n cap), FactS.eq (.int .i64 i), FactS.eq (.slice A17 (n - i) (cap - i)), FactS.any, FactS.eq (.pointer (some ⟨mb, 0, none⟩)), FactS.eq (.pointer (some ⟨mb, 1, none⟩)), FactS.eq (undef)] : List (FactS S_)).getD t_ FactS.any := ⟨_, fun _ => rfl⟩
      have hP_ : ∀ i_ v_ (y_ : Nat → Option Value) W_, ([1, 8, 10, 11, 18].contains i_) = false → G (y_ 1) (y_ 8) (y_ 10) (y_ 11) (y_ 18) W_ → G (updY y_ i_ v_ 1) (updY y_ i_ v_ 8) (updY y_ i_ v_ 10) (updY y_ i_ v_ 11) (updY y_ i_ v_ 18) W_ := by
        intro i_ v_ y_ W_ hi_ h_
        simp only [List.contains_cons, List.contains_nil, Bool.or_false, Bool.or_eq_false_iff, beq_eq_false_iff_ne, ne_eq] at hi_
        obtain ⟨i1_, i8_, i10_, i11_, i18_⟩ := hi_
        rw [updY_ne y_ i_ v_ i1_, updY_ne y_ i_ v_ i8_, updY_ne y_ i_ v_ i10_, updY_ne y_ i_ v_ i11_, updY_ne y_ i_ v_ i18_]
        exact h_
      refine region_tabU 21 [(0, 49), (1, 50), (2, 51), (3, 52), (4, 53), (5, 54), (6, 55), (7, 56), (8, 57), (9, 58), (10, 59), (11, 60), (12, 61), (13, 62), (14, 63), (15, 64), (16, 65), (17, 66), (18, 67), (19, 68), (20, 69)] T (fun y_ W_ => G (y_ 1) (y_ 8) (y_ 10) (y_ 11) (y_ 18) W_) (by kernel_rfl) (by kernel_rfl) (by kernel_rfl) (by kernel_rfl) (by kernel_rfl) (by kernel_rfl) (by kernel_rfl) ?_ ?_ ?_
      · skip
        show G none none none none none _
        rw [hG]
        exact ⟨⟨(fun h => by cases h), (fun h => by cases h), (fun h => by cases h)⟩, fun _ => Ch2.none_ (by rw [hB]; simp), (Chg.refl _ _).drewN 1, by rw [hB]; simp, fun u e => by cases e⟩
      · skip
        refine stepsAll_cons (k := 0) ?_ ?_
        · intro fa fx fW fy hF hN hJ hE K fK
          have hJ : G (fy 1) (fy 8) (fy 10) (fy 11) (fy 18) fW := hJ
          have ev0 : fa.tmps[0]?.getD undef = .pointer (some ⟨mb, 0, none⟩) := hF.eo 0 (by kernel_rfl)
          refine wpOp_val rfl (wanted_none rfl) ?_ (fK (.pointer (some ⟨mb, 0, none⟩)) fW (hR_ fW) (by rw [hT]; exact rfl) (hP_ 0 _ fy fW rfl hJ))
          clear fK hE hF hJ hN
          go_simp
        refine stepsAll_cons (k := 1) ?_ ?_
        · intro fa fx fW fy hF hN hJ hE K fK
          have hJ : G (fy 1) (fy 8) (fy 10) (fy 11) (fy 18) fW := hJ
          rw [hG, hN] at hJ
          obtain ⟨⟨i1, i2, i3⟩, j1, j2, j3, j4⟩ := hJ
          have a8 : fy 8 = none := by cases h : fy 8 with | none => rfl | some u => rw [h] at i1; exact absurd (i1 rfl) (by simp)
          have a11 : fy 11 = none := by cases h : fy 11 with | none => rfl | some u => rw [h, a8] at i2; exact absurd (i2 rfl).1 (by simp)
          have a18 : fy 18 = none := by cases h : fy 18 with | none => rfl | some u => rw [h, a11] at i3; exact absurd (i3 rfl) (by simp)
          have k1 := j1 a18
          rw [a8, a11] at k1
          have hal : Below fW.heap.size fW (fW.alloc (.cells #[] 3)) := below_al (Below.refl _ _) _
          refine wpOp_to rfl (wanted_none rfl) (v := .slice (some ⟨fW.heap.size, 0, none⟩) 0 0) (W' := fW.alloc (.cells #[] 3)) (by clear fK hE hF hN i1 i2 i3 j1 j2 j3 j4 k1; go_simp) (fK _ _ (by rw [hS_]; exact Chg.of_below hal) (by rw [hT]; exact trivial) ?_)
          show G (some _) (fy 8) (fy 10) (fy 11) (fy 18) _
          rw [hG, a8, a11, a18]
          exact ⟨⟨(fun h => by cases h), (fun h => by cases h), (fun h => by cases h)⟩, fun _ => k1.x_, j2.trans (Chg.of_below hal), Nat.le_trans j3 hal.size, fun u e => by cases e⟩
        refine stepsAll_cons (k := 2) ?_ ?_
        · intro fa fx fW fy hF hN hJ hE K fK
          have hJ : G (fy 1) (fy 8) (fy 10) (fy 11) (fy 18) fW := hJ
          have ev0 : fa.tmps[0]?.getD undef = .pointer (some ⟨mb, 0, none⟩) := hF.eo 0 (by kernel_rfl)
          refine wpOp_val rfl (wanted_none rfl) ?_ (fK (.pointer (some ⟨mb, 0, none⟩)) fW (hR_ fW) (by rw [hT]; exact rfl) (hP_ 2 _ fy fW rfl hJ))
          clear fK hE hF hJ hN
          go_simp
        refine stepsAll_cons (k := 3) ?_ ?_
        · intro fa fx fW fy hF hN hJ hE K fK
          have hJ : G (fy 1) (fy 8) (fy 10) (fy 11) (fy 18) fW := hJ
          have q2 : fx 2 = .pointer (some ⟨mb, 0, none⟩) := by have q := (hE ⟨2, .data⟩ (by simp) rfl).2; rw [hT] at q; exact q
          have ev51 : fa.tmps[51]?.getD undef = .pointer (some ⟨mb, 0, none⟩) := (hF.ev 2 51 (by kernel_rfl)).trans q2
          refine wpOp_val rfl (wanted_none rfl) ?_ (fK (.pointer (some ⟨mb, 0, none⟩)) fW (hR_ fW) (by rw [hT]; exact rfl) (hP_ 3 _ fy fW rfl hJ))
          clear fK hE hF hJ hN
          go_simp
        refine stepsAll_cons (k := 4) ?_ ?_
        · intro fa fx fW fy hF hN hJ hE K fK
          have hJ : G (fy 1) (fy 8) (fy 10) (fy 11) (fy 18) fW := hJ
          have q3 : fx 3 = .pointer (some ⟨mb, 0, none⟩) := by have q := (hE ⟨3, .data⟩ (by simp) rfl).2; rw [hT] at q; exact q
          have ev52 : fa.tmps[52]?.getD undef = .pointer (some ⟨mb, 0, none⟩) := (hF.ev 3 52 (by kernel_rfl)).trans q3
          refine wpOp_val rfl (wanted_none rfl) ?_ (fK (.pointer (some ⟨mb, 1, none⟩)) fW (hR_ fW) (by rw [hT]; exact rfl) (hP_ 4 _ fy fW rfl hJ))
          clear fK hE hF hJ hN
          go_simp
        refine stepsAll_cons (k := 5) ?_ ?_
        · intro fa fx fW fy hF hN hJ hE K fK
          have hJ : G (fy 1) (fy 8) (fy 10) (fy 11) (fy 18) fW := hJ
          have q4 : fx 4 = .pointer (some ⟨mb, 1, none⟩) := by have q := (hE ⟨4, .data⟩ (by simp) rfl).2; rw [hT] at q; exact q
          have ev53 : fa.tmps[53]?.getD undef = .pointer (some ⟨mb, 1, none⟩) := (hF.ev 4 53 (by kernel_rfl)).trans q4
          have hJ1 := hJ
          rw [hG] at hJ1
          have k0 := (hbx.keep hJ1.2.2.1 hbS).cell
          clear hJ1
          refine wpOp_val rfl (wanted_none rfl) ?_ (fK (.slice A n cap) fW (hR_ fW) (by rw [hT]; exact rfl) (hP_ 5 _ fy fW rfl hJ))
          clear fK hE hF hJ hN
          go_simp
        refine stepsAll_cons (k := 6) ?_ ?_
        · intro fa fx fW fy hF hN hJ hE K fK
          have hJ : G (fy 1) (fy 8) (fy 10) (fy 11) (fy 18) fW := hJ
          have ev6 : fa.tmps[6]?.getD undef = .int .i64 i := hF.eo 6 (by kernel_rfl)
          refine wpOp_val rfl (wanted_none rfl) ?_ (fK (.int .i64 i) fW (hR_ fW) (by rw [hT]; exact rfl) (hP_ 6 _ fy fW rfl hJ))
          clear fK hE hF hJ hN
          go_simp
        refine stepsAll_cons (k := 7) ?_ ?_
        · intro fa fx fW fy hF hN hJ hE K fK
          have hJ : G (fy 1) (fy 8) (fy 10) (fy 11) (fy 18) fW := hJ
          have q5 : fx 5 = .slice A n cap := by have q := (hE ⟨5, .data⟩ (by simp) rfl).2; rw [hT] at q; exact q
          have q6 : fx 6 = .int .i64 i := by have q := (hE ⟨6, .data⟩ (by simp) rfl).2; rw [hT] at q; exact q
          have ev54 : fa.tmps[54]?.getD undef = .slice A n cap := (hF.ev 5 54 (by kernel_rfl)).trans q5
          have ev55 : fa.tmps[55]?.getD undef = .int .i64 i := (hF.ev 6 55 (by kernel_rfl)).trans q6
          refine wpOp_val rfl (wanted_none rfl) ?_ (fK (.slice A i cap) fW (hR_ fW) (by rw [hT]; exact rfl) (hP_ 7 _ fy fW rfl hJ))
          clear fK hE hF hJ hN
          rcases A with _ | ad0
          · obtain ⟨e1, e2, _⟩ := HR5.out.nil_n
            subst e1
            subst e2
            obtain rfl : i = 0 := by omega
            go_simp
          · go_simp
            all_goals first | omega | (intro h; omega)
        refine stepsAll_cons (k := 8) ?_ ?_
        · intro fa fx fW fy hF hN hJ hE K fK
          have hJ : G (fy 1) (fy 8) (fy 10) (fy 11) (fy 18) fW := hJ
          have q1 : (FactS.any : FactS S_).p (fx 1) fW := by have q := (hE ⟨1, .data⟩ (by simp) rfl).2; rw [hT] at q; exact q
          have y1 : fy 1 = some (fx 1) := (hE ⟨1, .data⟩ (by simp) rfl).1
          have q7 : fx 7 = .slice A i cap := by have q := (hE ⟨7, .data⟩ (by simp) rfl).2; rw [hT] at q; exact q
          have ev50 : fa.tmps[50]?.getD undef = fx 1 := hF.ev 1 50 (by kernel_rfl)
          have ev56 : fa.tmps[56]?.getD undef = .slice A i cap := (hF.ev 7 56 (by kernel_rfl)).trans q7
          rw [hG, hN, y1] at hJ
          obtain ⟨⟨i1, i2, i3⟩, j1, j2, j3, j4⟩ := hJ
          have a11 : fy 11 = none := by cases h : fy 11 with | none => rfl | some u => rw [h] at i2; exact absurd (i2 rfl).1 (by simp)
          have a18 : fy 18 = none := by cases h : fy 18 with | none => rfl | some u => rw [h, a11] at i3; exact absurd (i3 rfl) (by simp)
          have k1 := j1 a18
          rw [a11] at k1
          have ho := k1.hx _ rfl rfl
          have hrA := j2.rds hr7.out hAS
          refine wpOp_list rfl (apn (w0 := fW) B rfl _ _ 22 3 _ 1 8 (by rfl) Try.underlying22 info_hint rfl (by decide) (by decide) (fx 1) 0 [] _ i cap (nums .i64 ((zs ids).take i)) (by clear fK hE hF hN i1 i2 i3 j1 j2 j3 j4 k1; go_simp) (by clear fK hE hF hN i1 i2 i3 j1 j2 j3 j4 k1; go_simp) hrA (nums_one _ _) ho (Below.refl _ _) k1.hB (by omega) ?_)
          intro v1 w1 p1 p2 p3 p4
          rw [Nat.zero_add, List.nil_append] at p1
          have hch : Chg S0 fW w1 := Chg.of_grown p3 (fun k e => by rw [hS0]; exact own_base ho k e)
          refine fK _ _ (by rw [hS_]; exact hch) (by rw [hT]; exact trivial) ?_
          show G (fy 1) (some v1) (fy 10) (fy 11) (fy 18) w1
          rw [hG, a11, a18, y1]
          exact ⟨⟨(fun _ => rfl), (fun h => by cases h), (fun h => by cases h)⟩, fun _ => k1.a_ p1 p3 p4, j2.trans hch, Nat.le_trans j3 hch.size, fun u e => by cases e⟩
        refine stepsAll_cons (k := 9) ?_ ?_
        · intro fa fx fW fy hF hN hJ hE K fK
          have hJ : G (fy 1) (fy 8) (fy 10) (fy 11) (fy 18) fW := hJ
          have ev1 : fa.tmps[1]?.getD undef = .int .i64 (x : Nat) := hF.eo 1 (by kernel_rfl)
          refine wpOp_val rfl (wanted_none rfl) ?_ (fK (.int .i64 (x : Nat)) fW (hR_ fW) (by rw [hT]; exact rfl) (hP_ 9 _ fy fW rfl hJ))
          clear fK hE hF hJ hN
          go_simp
        refine stepsAll_cons (k := 10) ?_ ?_
        · intro fa fx fW fy hF hN hJ hE K fK
          have hJ : G (fy 1) (fy 8) (fy 10) (fy 11) (fy 18) fW := hJ
          have q9 : fx 9 = .int .i64 (x : Nat) := by have q := (hE ⟨9, .data⟩ (by simp) rfl).2; rw [hT] at q; exact q
          have ev58 : fa.tmps[58]?.getD undef = .int .i64 (x : Nat) := (hF.ev 9 58 (by kernel_rfl)).trans q9
          rw [hG, hN] at hJ
          obtain ⟨⟨i1, i2, i3⟩, j1, j2, j3, j4⟩ := hJ
          have a11 : fy 11 = none := by cases h : fy 11 with | none => rfl | some u => rw [h] at i2; exact absurd (i2 rfl).2 (by simp)
          have a18 : fy 18 = none := by cases h : fy 18 with | none => rfl | some u => rw [h, a11] at i3; exact absurd (i3 rfl) (by simp)
          have k1 := j1 a18
          rw [a11] at k1
          have hal : Below fW.heap.size fW (fW.alloc (.cells [.int .i64 (x : Nat)].toArray 3)) := below_al (Below.refl _ _) _
          refine wpOp_to rfl (wanted_none rfl) (v := .slice (some ⟨fW.heap.size, 0, none⟩) 1 1) (W' := fW.alloc (.cells [.int .i64 (x : Nat)].toArray 3)) (by clear fK hE hF hN i1 i2 i3 j1 j2 j3 j4 k1; go_simp) (fK _ _ (by rw [hS_]; exact Chg.of_below hal) (by rw [hT]; exact trivial) ?_)
          show G (fy 1) (fy 8) (some _) (fy 11) (fy 18) _
          rw [hG, a11, a18]
          exact ⟨⟨i1, (fun h => by cases h), (fun h => by cases h)⟩, fun _ => k1.l_ rfl, j2.trans (Chg.of_below hal), Nat.le_trans j3 hal.size, fun u e => by cases e⟩
        refine stepsAll_cons (k := 11) ?_ ?_
        · intro fa fx fW fy hF hN hJ hE K fK
          have hJ : G (fy 1) (fy 8) (fy 10) (fy 11) (fy 18) fW := hJ
          have q8 : (FactS.any : FactS S_).p (fx 8) fW := by have q := (hE ⟨8, .data⟩ (by simp) rfl).2; rw [hT] at q; exact q
          have y8 : fy 8 = some (fx 8) := (hE ⟨8, .data⟩ (by simp) rfl).1
          have q10 : (FactS.any : FactS S_).p (fx 10) fW := by have q := (hE ⟨10, .data⟩ (by simp) rfl).2; rw [hT] at q; exact q
          have y10 : fy 10 = some (fx 10) := (hE ⟨10, .data⟩ (by simp) rfl).1
          have ev57 : fa.tmps[57]?.getD undef = fx 8 := hF.ev 8 57 (by kernel_rfl)
          have ev59 : fa.tmps[59]?.getD undef = fx 10 := hF.ev 10 59 (by kernel_rfl)
          rw [hG, hN, y8, y10] at hJ
          obtain ⟨⟨i1, i2, i3⟩, j1, j2, j3, j4⟩ := hJ
          have a18 : fy 18 = none := by cases h : fy 18 with | none => rfl | some u => rw [h] at i3; exact absurd (i3 rfl) (by simp)
          have k1 := j1 a18
          have ho := k1.ha _ rfl rfl
          obtain ⟨gl, hl1, hl2, hl3, _, _⟩ := k1.hl _ rfl rfl
          refine wpOp_list rfl (apn (w0 := fW) B rfl _ _ 22 3 _ 1 8 (by rfl) Try.underlying22 info_hint rfl (by decide) (by decide) (fx 8) i (nums .i64 ((zs ids).take i)) (some ⟨gl, 0, none⟩) 1 1 [.int .i64 (x : Nat)] (by clear fK hE hF hN i1 i2 i3 j1 j2 j3 j4 k1; go_simp) (by clear fK hE hF hN i1 i2 i3 j1 j2 j3 j4 k1; rw [hl1] at ev59; go_simp) hl3 (by intro u hu; simp at hu; subst hu; rfl) ho (Below.refl _ _) k1.hB (by omega) ?_)
          intro v1 w1 p1 p2 p3 p4
          have hch : Chg S0 fW w1 := Chg.of_grown p3 (fun k e => by rw [hS0]; exact own_base ho k e)
          refine fK _ _ (by rw [hS_]; exact hch) (by rw [hT]; exact trivial) ?_
          show G (fy 1) (fy 8) (fy 10) (some v1) (fy 18) w1
          rw [hG, a18, y8, y10]
          exact ⟨⟨(fun _ => i1 rfl), (fun _ => ⟨rfl, rfl⟩), (fun h => by cases h)⟩, fun _ => k1.d_ hch.size p1, j2.trans hch, Nat.le_trans j3 hch.size, fun u e => by cases e⟩
        refine stepsAll_cons (k := 12) ?_ ?_
        · intro fa fx fW fy hF hN hJ hE K fK
          have hJ : G (fy 1) (fy 8) (fy 10) (fy 11) (fy 18) fW := hJ
          have ev0 : fa.tmps[0]?.getD undef = .pointer (some ⟨mb, 0, none⟩) := hF.eo 0 (by kernel_rfl)
          refine wpOp_val rfl (wanted_none rfl) ?_ (fK (.pointer (some ⟨mb, 0, none⟩)) fW (hR_ fW) (by rw [hT]; exact rfl) (hP_ 12 _ fy fW rfl hJ))
          clear fK hE hF hJ hN
          go_simp
        refine stepsAll_cons (k := 13) ?_ ?_
        · intro fa fx fW fy hF hN hJ hE K fK
          have hJ : G (fy 1) (fy 8) (fy 10) (fy 11) (fy 18) fW := hJ
          have q12 : fx 12 = .pointer (some ⟨mb, 0, none⟩) := by have q := (hE ⟨12, .data⟩ (by simp) rfl).2; rw [hT] at q; exact q
          have ev61 : fa.tmps[61]?.getD undef = .pointer (some ⟨mb, 0, none⟩) := (hF.ev 12 61 (by kernel_rfl)).trans q12
          refine wpOp_val rfl (wanted_none rfl) ?_ (fK (.pointer (some ⟨mb, 0, none⟩)) fW (hR_ fW) (by rw [hT]; exact rfl) (hP_ 13 _ fy fW rfl hJ))
          clear fK hE hF hJ hN
          go_simp
        refine stepsAll_cons (k := 14) ?_ ?_
        · intro fa fx fW fy hF hN hJ hE K fK
          have hJ : G (fy 1) (fy 8) (fy 10) (fy 11) (fy 18) fW := hJ
          have q13 : fx 13 = .pointer (some ⟨mb, 0, none⟩) := by have q := (hE ⟨13, .data⟩ (by simp) rfl).2; rw [hT] at q; exact q
          have ev62 : fa.tmps[62]?.getD undef = .pointer (some ⟨mb, 0, none⟩) := (hF.ev 13 62 (by kernel_rfl)).trans q13
          refine wpOp_val rfl (wanted_none rfl) ?_ (fK (.pointer (some ⟨mb, 1, none⟩)) fW (hR_ fW) (by rw [hT]; exact rfl) (hP_ 14 _ fy fW rfl hJ))
          clear fK hE hF hJ hN
          go_simp
        refine stepsAll_cons (k := 15) ?_ ?_
        · intro fa fx fW fy hF hN hJ hE K fK
          have hJ : G (fy 1) (fy 8) (fy 10) (fy 11) (fy 18) fW := hJ
          have q14 : fx 14 = .pointer (some ⟨mb, 1, none⟩) := by have q := (hE ⟨14, .data⟩ (by simp) rfl).2; rw [hT] at q; exact q
          have ev63 : fa.tmps[63]?.getD undef = .pointer (some ⟨mb, 1, none⟩) := (hF.ev 14 63 (by kernel_rfl)).trans q14
          have hJ1 := hJ
          rw [hG] at hJ1
          have k0 := (hbx.keep hJ1.2.2.1 hbS).cell
          clear hJ1
          refine wpOp_val rfl (wanted_none rfl) ?_ (fK (.slice A n cap) fW (hR_ fW) (by rw [hT]; exact rfl) (hP_ 15 _ fy fW rfl hJ))
          clear fK hE hF hJ hN
          go_simp
        refine stepsAll_cons (k := 16) ?_ ?_
        · intro fa fx fW fy hF hN hJ hE K fK
          have hJ : G (fy 1) (fy 8) (fy 10) (fy 11) (fy 18) fW := hJ
          have ev6 : fa.tmps[6]?.getD undef = .int .i64 i := hF.eo 6 (by kernel_rfl)
          refine wpOp_val rfl (wanted_none rfl) ?_ (fK (.int .i64 i) fW (hR_ fW) (by rw [hT]; exact rfl) (hP_ 16 _ fy fW rfl hJ))
          clear fK hE hF hJ hN
          go_simp
        refine stepsAll_cons (k := 17) ?_ ?_
        · intro fa fx fW fy hF hN hJ hE K fK
          have hJ : G (fy 1) (fy 8) (fy 10) (fy 11) (fy 18) fW := hJ
          have q15 : fx 15 = .slice A n cap := by have q := (hE ⟨15, .data⟩ (by simp) rfl).2; rw [hT] at q; exact q
          have q16 : fx 16 = .int .i64 i := by have q := (hE ⟨16, .data⟩ (by simp) rfl).2; rw [hT] at q; exact q
          have ev64 : fa.tmps[64]?.getD undef = .slice A n cap := (hF.ev 15 64 (by kernel_rfl)).trans q15
          have ev65 : fa.tmps[65]?.getD undef = .int .i64 i := (hF.ev 16 65 (by kernel_rfl)).trans q16
          refine wpOp_val rfl (wanted_none rfl) ?_ (fK (.slice A17 (n - i) (cap - i)) fW (hR_ fW) (by rw [hT]; exact rfl) (hP_ 17 _ fy fW rfl hJ))
          clear fK hE hF hJ hN
          rw [HA17.out]
          rcases A with _ | ad0
          · obtain ⟨e1, e2, _⟩ := HR5.out.nil_n
            subst e1
            subst e2
            obtain rfl : i = 0 := by omega
            go_simp
          · go_simp
            by_cases hcc : cap = i <;> simp [hcc]
        refine stepsAll_cons (k := 18) ?_ ?_
        · intro fa fx fW fy hF hN hJ hE K fK
          have hJ : G (fy 1) (fy 8) (fy 10) (fy 11) (fy 18) fW := hJ
          have q11 : (FactS.any : FactS S_).p (fx 11) fW := by have q := (hE ⟨11, .data⟩ (by simp) rfl).2; rw [hT] at q; exact q
          have y11 : fy 11 = some (fx 11) := (hE ⟨11, .data⟩ (by simp) rfl).1
          have q17 : fx 17 = .slice A17 (n - i) (cap - i) := by have q := (hE ⟨17, .data⟩ (by simp) rfl).2; rw [hT] at q; exact q
          have ev60 : fa.tmps[60]?.getD undef = fx 11 := hF.ev 11 60 (by kernel_rfl)
          have ev66 : fa.tmps[66]?.getD undef = .slice A17 (n - i) (cap - i) := (hF.ev 17 66 (by kernel_rfl)).trans q17
          rw [hG, hN, y11] at hJ
          obtain ⟨⟨i1, i2, i3⟩, j1, j2, j3, j4⟩ := hJ
          have k1 := j1 rfl
          have ho := k1.hd _ rfl
          have hrA := j2.rds hr17.out hAS17
          refine wpOp_list rfl (apn (w0 := fW) B rfl _ _ 22 3 _ 1 8 (by rfl) Try.underlying22 info_hint rfl (by decide) (by decide) (fx 11) (i + 1) (nums .i64 ((zs ids).take i) ++ [.int .i64 (x : Nat)]) A17 (n - i) (cap - i) (nums .i64 ((zs ids).drop i)) (by clear fK hE hF hN i1 i2 i3 j1 j2 j3 j4 k1; go_simp) (by clear fK hE hF hN i1 i2 i3 j1 j2 j3 j4 k1; go_simp) hrA (nums_one _ _) ho (Below.refl _ _) k1.hB (by omega) ?_)
          intro v1 w1 p1 p2 p3 p4
          have hch : Chg S0 fW w1 := Chg.of_grown p3 (fun k e => by rw [hS0]; exact own_base ho k e)
          refine fK _ _ (by rw [hS_]; exact hch) (by rw [hT]; exact trivial) ?_
          show G (fy 1) (fy 8) (fy 10) (fy 11) (some v1) w1
          rw [hG, y11]
          exact ⟨⟨i1, (fun _ => i2 rfl), (fun _ => rfl)⟩, (fun e => by cases e), j2.trans hch, Nat.le_trans j3 hch.size, fun u e => by cases e; exact p1⟩
        refine stepsAll_cons (k := 19) ?_ ?_
        · intro fa fx fW fy hF hN hJ hE K fK
          have hJ : G (fy 1) (fy 8) (fy 10) (fy 11) (fy 18) fW := hJ
          have q0 : fx 0 = .pointer (some ⟨mb, 0, none⟩) := by have q := (hE ⟨0, .data⟩ (by simp) rfl).2; rw [hT] at q; exact q
          have ev49 : fa.tmps[49]?.getD undef = .pointer (some ⟨mb, 0, none⟩) := (hF.ev 0 49 (by kernel_rfl)).trans q0
          refine wpOp_val rfl (wanted_none rfl) ?_ (fK (.pointer (some ⟨mb, 0, none⟩)) fW (hR_ fW) (by rw [hT]; exact rfl) (hP_ 19 _ fy fW rfl hJ))
          clear fK hE hF hJ hN
          go_simp
        refine stepsAll_cons (k := 20) ?_ ?_
        · intro fa fx fW fy hF hN hJ hE K fK
          have hJ : G (fy 1) (fy 8) (fy 10) (fy 11) (fy 18) fW := hJ
          have q19 : fx 19 = .pointer (some ⟨mb, 0, none⟩) := by have q := (hE ⟨19, .data⟩ (by simp) rfl).2; rw [hT] at q; exact q
          have ev68 : fa.tmps[68]?.getD undef = .pointer (some ⟨mb, 0, none⟩) := (hF.ev 19 68 (by kernel_rfl)).trans q19
          refine wpOp_val rfl (wanted_none rfl) ?_ (fK (.pointer (some ⟨mb, 1, none⟩)) fW (hR_ fW) (by rw [hT]; exact rfl) (hP_ 20 _ fy fW rfl hJ))
          clear fK hE hF hJ hN
          go_simp
        exact stepsAll_nil
      intro fa fx fW fy hF hJ0 hx
      have y1 : fy 1 = some (fx 1) := (hx 1 (by decide)).1
      have y8 : fy 8 = some (fx 8) := (hx 8 (by decide)).1
      have y10 : fy 10 = some (fx 10) := (hx 10 (by decide)).1
      have y11 : fy 11 = some (fx 11) := (hx 11 (by decide)).1
      have y18 : fy 18 = some (fx 18) := (hx 18 (by decide)).1
      have hJ : G (fy 1) (fy 8) (fy 10) (fy 11) (fy 18) fW := hJ0
      clear hJ0
      rw [y1, y8, y10, y11, y18] at hJ
      have q18 : (FactS.any : FactS S_).p (fx 18) fW := by have q := (hx 18 (by decide)).2; rw [hT] at q; exact q
      have ev67 : fa.tmps[67]?.getD undef = fx 18 := hF.ev 18 67 (by kernel_rfl)
      have q20 : fx 20 = .pointer (some ⟨mb, 1, none⟩) := by have q := (hx 20 (by decide)).2; rw [hT] at q; exact q
      have ev69 : fa.tmps[69]?.getD undef = .pointer (some ⟨mb, 1, none⟩) := (hF.ev 20 69 (by kernel_rfl)).trans q20
      rw [hG] at hJ
      obtain ⟨_, _, jc, jb, jo⟩ := hJ
      have ho := jo _ rfl
      have hbz := hbx.keep jc hbS
      have c0 := hbz.cell
      have f0 := hbz.free
      obtain ⟨Ae, ce, hse⟩ := own_slice ho
      refine wpOp_fin rfl (wanted_none rfl) rfl (W' := fW.setCell ⟨mb, 1, none⟩ (fx 18)) ?_ ?_
      · clear hF hx
        rw [hse] at ev67 ⊢
        go_simp
      refine tail_end ?_
      rw [hF.eq]
      clear hF hx hT T hP_ hR_ y1 y8 y10 y11 y18
      simp only [putAll, Act.put, List.setIfInBounds_toArray, List.set_cons_zero, List.set_cons_succ, ]
      have hbel : Below W5.heap.size W5 fW := jc.toBelow (Below.refl _ _) (Nat.le_refl _) (fun k e => by rw [hS0] at e; omega)
      obtain ⟨s0, s1, s2, s3, s4, s5, s6⟩ := rf_set1 HNL.out HRF.out hbel hB ho
      have HLB := Lib.hid HRF.out.lb
      have HC6 : Hid (Chg (fun k => k = mb) w (fW.setCell ⟨mb, 1, none⟩ (fx 18))) := (Chg.of_below (below_then HB5.out HB5.out.size hbel)).setCell _ _ _ rfl
      have HU1 : Hid (∀ k, (fx 18).ownBlock = some k → w.heap.size ≤ k) := Lib.hid (fun k e => Nat.le_trans HB5.out.size (s6 k e))
      obtain ⟨u1, hu1⟩ : ∃ u, u = fx 18 := ⟨_, rfl⟩
      rw [← hu1] at s0 s1 s2 s3 s4 s5 HC6 HU1 ⊢
      have HS0 := Lib.hid s0
      have HS1 := Lib.hid s1
      have HS2 := Lib.hid s2
      have HS3 := Lib.hid s3
      have HS4 := Lib.hid s4
      have HS5 := Lib.hid s5
      clear s0 s1 s2 s3 s4 s5 s6 hbel ho jc jb jo hbz c0 f0 hse hu1 hbx hcapn hAS hAS17 hr7 hr17 HA17 hbS HR5 HRF HB5
      generalize fW.setCell ⟨mb, 1, none⟩ u1 = W6 at HS0 HS1 HS2 HS3 HS4 HC6 ⊢
      clear hB hS0 hG
      obtain ⟨W5, rfl⟩ : ∃ x, x = W6 := ⟨_, rfl⟩
      have HRF : Hid (Rk W5 base mb most (.slice A2 n cap2) n keys) := Lib.hid ⟨HS0.out, HS2.out, HS4.out⟩
      go_wp2_with fail
      have hr5 := (own_rds' HRF.out.ko).2
      have HR5 := Lib.hid hr5
      clear hr5
      obtain ⟨B, hB⟩ : ∃ B, B = W5.heap.size := ⟨_, rfl⟩
      obtain ⟨S0, hS0⟩ : ∃ S0 : Nat → Prop, S0 = fun k => B ≤ k := ⟨_, rfl⟩
      have hbS : ¬ S0 mb := by rw [hS0]; have := HRF.out.mo.lt; omega
      have hAS : ∀ ad, A2 = some ad → ¬ S0 ad.block := fun ad e => by
        rw [hS0]
        have h1 := HRF.out.ko.lt ad.block (by rw [e]; rfl)
        omega
      have hr7 := Lib.hid (HR5.out.take_ i hin)
      rw [Nat.mul_one, nums_takeI] at hr7
      have hr17 := Lib.hid (HR5.out.restI hin)
      rw [nums_dropI] at hr17
      obtain ⟨A17, hA17⟩ : ∃ A17, A17 = A2.map (fun ad => if cap2 = i then ad else ad.add i) := ⟨_, rfl⟩
      rw [← hA17] at hr17
      have HA17 := Lib.hid hA17
      have hAS17 : ∀ ad, A17 = some ad → ¬ S0 ad.block := fun ad e => by
        rw [hA17] at e
        cases hAA : A2 with
        | none => rw [hAA] at e; cases e
        | some ad0 =>
          rw [hAA] at e
          have h2 := hAS ad0 hAA
          have h3 : (if cap2 = i then ad0 else ad0.add i) = ad := by simpa using e
          rw [← h3]
          split
          · exact h2
          · have h4 : (ad0.add i).block = ad0.block := by unfold Addr.add; split <;> rfl
            rw [h4]
            exact h2
      clear hA17
      have hcapn : n ≤ cap2 := HR5.out.le
      have hbx := HRF.out.kb
      obtain ⟨G, hG⟩ : ∃ G : Option Value → Option Value → Option Value → Option Value → Option Value → World → Prop, ∀ xx aa ll dd ee W, G xx aa ll dd ee W = (((aa.isSome = true → xx.isSome = true) ∧ (dd.isSome = true → aa.isSome = true ∧ ll.isSome = true) ∧ (ee.isSome = true → dd.isSome = true)) ∧ (ee = none → Ch2 3 1 B i 1 (nums .i64 (keys.take i)) [.int .i64 key] xx aa ll dd W) ∧ Chg S0 W5 W ∧ B ≤ W.heap.size ∧ (∀ u, ee = some u → W.ownsRow B 3 1 u (i + 1 + (n - i)) (nums .i64 (keys.take i) ++ [.int .i64 key] ++ nums .i64 (keys.drop i)))) := ⟨_, fun _ _ _ _ _ _ => rfl⟩
      obtain ⟨S_, hS_⟩ : ∃ S_ : World → World → Prop, S_ = (Chg S0) := ⟨_, rfl⟩
      have hR_ : ∀ W, S_ W W := by intro W; rw [hS_]; exact Chg.refl _ _
      obtain ⟨T, hT⟩ : ∃ T : Nat → FactS S_, ∀ t_, T t_ = ([FactS.eq (.pointer (some ⟨mb, 0, none⟩)), FactS.any, FactS.eq (.pointer (some ⟨mb, 0, none⟩)), FactS.eq (.pointer (some ⟨mb, 0, none⟩)), FactS.eq (.pointer (some ⟨mb, 2, none⟩)), FactS.eq (.slice A2 n cap2), FactS.eq (.int .i64 i), FactS.eq (.slice A2 i cap2), FactS.any, FactS.eq (.int .i64 key), FactS.any, FactS.any, FactS.eq (.pointer (some ⟨mb, 0, none⟩)), FactS.eq (.pointer (some ⟨mb, 0, none⟩)), FactS.eq (.pointer (some ⟨mb, 2, none⟩)), FactS.eq (.slice A2 n cap2), FactS.eq (.int .i64 i), FactS.eq (.slice A17 (n - i) (cap2 - i)), FactS.any, FactS.eq (.pointer (some ⟨mb, 0, none⟩)), FactS.eq (.pointer (some ⟨mb, 2, none⟩)), FactS.eq (undef)] : List (FactS S_)).getD t_ FactS.any := ⟨_, fun _ => rfl⟩
      have hP_ : ∀ i_ v_ (y_ : Nat → Option Value) W_, ([1, 8, 10, 11, 18].contains i_) = false → G (y_ 1) (y_ 8) (y_ 10) (y_ 11) (y_ 18) W_ → G (updY y_ i_ v_ 1) (updY y_ i_ v_ 8) (updY y_ i_ v_ 10) (updY y_ i_ v_ 11) (updY y_ i_ v_ 18) W_ := by
        intro i_ v_ y_ W_ hi_ h_
        simp only [List.contains_cons, List.contains_nil, Bool.or_false, Bool.or_eq_false_iff, beq_eq_false_iff_ne, ne_eq] at hi_
        obtain ⟨i1_, i8_, i10_, i11_, i18_⟩ := hi_
        rw [updY_ne y_ i_ v_ i1_, updY_ne y_ i_ v_ i8_, updY_ne y_ i_ v_ i10_, updY_ne y_ i_ v_ i11_, updY_ne y_ i_ v_ i18_]
        exact h_
      refine region_tabU 21 [(0, 70), (1, 71), (2, 72), (3, 73), (4, 74), (5, 75), (6, 76), (7, 77), (8, 78), (9, 79), (10, 80), (11, 81), (12, 82), (13, 83), (14, 84), (15, 85), (16, 86), (17, 87), (18, 88), (19, 89), (20, 90)] T (fun y_ W_ => G (y_ 1) (y_ 8) (y_ 10) (y_ 11) (y_ 18) W_) (by kernel_rfl) (by kernel_rfl) (by kernel_rfl) (by kernel_rfl) (by kernel_rfl) (by kernel_rfl) (by kernel_rfl) ?_ ?_ ?_
      · skip
        show G none none none none none _
        rw [hG]
        exact ⟨⟨(fun h => by cases h), (fun h => by cases h), (fun h => by cases h)⟩, fun _ => Ch2.none_ (by rw [hB]; simp), (Chg.refl _ _).drewN 1, by rw [hB]; simp, fun u e => by cases e⟩
      · skip
        refine stepsAll_cons (k := 0) ?_ ?_
        · intro fa fx fW fy hF hN hJ hE K fK
          have hJ : G (fy 1) (fy 8) (fy 10) (fy 11) (fy 18) fW := hJ
          have ev0 : fa.tmps[0]?.getD undef = .pointer (some ⟨mb, 0, none⟩) := hF.eo 0 (by kernel_rfl)
          refine wpOp_val rfl (wanted_none rfl) ?_ (fK (.pointer (some ⟨mb, 0, none⟩)) fW (hR_ fW) (by rw [hT]; exact rfl) (hP_ 0 _ fy fW rfl hJ))
          clear fK hE hF hJ hN
          go_simp
        refine stepsAll_cons (k := 1) ?_ ?_
        · intro fa fx fW fy hF hN hJ hE K fK
          have hJ : G (fy 1) (fy 8) (fy 10) (fy 11) (fy 18) fW := hJ
          rw [hG, hN] at hJ
          obtain ⟨⟨i1, i2, i3⟩, j1, j2, j3, j4⟩ := hJ
          have a8 : fy 8 = none := by cases h : fy 8 with | none => rfl | some u => rw [h] at i1; exact absurd (i1 rfl) (by simp)
          have a11 : fy 11 = none := by cases h : fy 11 with | none => rfl | some u => rw [h, a8] at i2; exact absurd (i2 rfl).1 (by simp)
          have a18 : fy 18 = none := by cases h : fy 18 with | none => rfl | some u => rw [h, a11] at i3; exact absurd (i3 rfl) (by simp)
          have k1 := j1 a18
          rw [a8, a11] at k1
          have hal : Below fW.heap.size fW (fW.alloc (.cells #[] 3)) := below_al (Below.refl _ _) _
          refine wpOp_to rfl (wanted_none rfl) (v := .slice (some ⟨fW.heap.size, 0, none⟩) 0 0) (W' := fW.alloc (.cells #[] 3)) (by clear fK hE hF hN i1 i2 i3 j1 j2 j3 j4 k1; go_simp) (fK _ _ (by rw [hS_]; exact Chg.of_below hal) (by rw [hT]; exact trivial) ?_)
          show G (some _) (fy 8) (fy 10) (fy 11) (fy 18) _
          rw [hG, a8, a11, a18]
          exact ⟨⟨(fun h => by cases h), (fun h => by cases h), (fun h => by cases h)⟩, fun _ => k1.x_, j2.trans (Chg.of_below hal), Nat.le_trans j3 hal.size, fun u e => by cases e⟩
        refine stepsAll_cons (k := 2) ?_ ?_
        · intro fa fx fW fy hF hN hJ hE K fK
          have hJ : G (fy 1) (fy 8) (fy 10) (fy 11) (fy 18) fW := hJ
          have ev0 : fa.tmps[0]?.getD undef = .pointer (some ⟨mb, 0, none⟩) := hF.eo 0 (by kernel_rfl)
          refine wpOp_val rfl (wanted_none rfl) ?_ (fK (.pointer (some ⟨mb, 0, none⟩)) fW (hR_ fW) (by rw [hT]; exact rfl) (hP_ 2 _ fy fW rfl hJ))
          clear fK hE hF hJ hN
          go_simp
        refine stepsAll_cons (k := 3) ?_ ?_
        · intro fa fx fW fy hF hN hJ hE K fK
          have hJ : G (fy 1) (fy 8) (fy 10) (fy 11) (fy 18) fW := hJ
          have q2 : fx 2 = .pointer (some ⟨mb, 0, none⟩) := by have q := (hE ⟨2, .data⟩ (by simp) rfl).2; rw [hT] at q; exact q
          have ev72 : fa.tmps[72]?.getD undef = .pointer (some ⟨mb, 0, none⟩) := (hF.ev 2 72 (by kernel_rfl)).trans q2
          refine wpOp_val rfl (wanted_none rfl) ?_ (fK (.pointer (some ⟨mb, 0, none⟩)) fW (hR_ fW) (by rw [hT]; exact rfl) (hP_ 3 _ fy fW rfl hJ))
          clear fK hE hF hJ hN
          go_simp
        refine stepsAll_cons (k := 4) ?_ ?_
        · intro fa fx fW fy hF hN hJ hE K fK
          have hJ : G (fy 1) (fy 8) (fy 10) (fy 11) (fy 18) fW := hJ
          have q3 : fx 3 = .pointer (some ⟨mb, 0, none⟩) := by have q := (hE ⟨3, .data⟩ (by simp) rfl).2; rw [hT] at q; exact q
          have ev73 : fa.tmps[73]?.getD undef = .pointer (some ⟨mb, 0, none⟩) := (hF.ev 3 73 (by kernel_rfl)).trans q3
          refine wpOp_val rfl (wanted_none rfl) ?_ (fK (.pointer (some ⟨mb, 2, none⟩)) fW (hR_ fW) (by rw [hT]; exact rfl) (hP_ 4 _ fy fW rfl hJ))
          clear fK hE hF hJ hN
          go_simp
        refine stepsAll_cons (k := 5) ?_ ?_
        · intro fa fx fW fy hF hN hJ hE K fK
          have hJ : G (fy 1) (fy 8) (fy 10) (fy 11) (fy 18) fW := hJ
          have q4 : fx 4 = .pointer (some ⟨mb, 2, none⟩) := by have q := (hE ⟨4, .data⟩ (by simp) rfl).2; rw [hT] at q; exact q
          have ev74 : fa.tmps[74]?.getD undef = .pointer (some ⟨mb, 2, none⟩) := (hF.ev 4 74 (by kernel_rfl)).trans q4
          have hJ1 := hJ
          rw [hG] at hJ1
          have k0 := (hbx.keep hJ1.2.2.1 hbS).cell
          clear hJ1
          refine wpOp_val rfl (wanted_none rfl) ?_ (fK (.slice A2 n cap2) fW (hR_ fW) (by rw [hT]; exact rfl) (hP_ 5 _ fy fW rfl hJ))
          clear fK hE hF hJ hN
          go_simp
        refine stepsAll_cons (k := 6) ?_ ?_
        · intro fa fx fW fy hF hN hJ hE K fK
          have hJ : G (fy 1) (fy 8) (fy 10) (fy 11) (fy 18) fW := hJ
          have ev6 : fa.tmps[6]?.getD undef = .int .i64 i := hF.eo 6 (by kernel_rfl)
          refine wpOp_val rfl (wanted_none rfl) ?_ (fK (.int .i64 i) fW (hR_ fW) (by rw [hT]; exact rfl) (hP_ 6 _ fy fW rfl hJ))
          clear fK hE hF hJ hN
          go_simp
        refine stepsAll_cons (k := 7) ?_ ?_
        · intro fa fx fW fy hF hN hJ hE K fK
          have hJ : G (fy 1) (fy 8) (fy 10) (fy 11) (fy 18) fW := hJ
          have q5 : fx 5 = .slice A2 n cap2 := by have q := (hE ⟨5, .data⟩ (by simp) rfl).2; rw [hT] at q; exact q
          have q6 : fx 6 = .int .i64 i := by have q := (hE ⟨6, .data⟩ (by simp) rfl).2; rw [hT] at q; exact q
          have ev75 : fa.tmps[75]?.getD undef = .slice A2 n cap2 := (hF.ev 5 75 (by kernel_rfl)).trans q5
          have ev76 : fa.tmps[76]?.getD undef = .int .i64 i := (hF.ev 6 76 (by kernel_rfl)).trans q6
          refine wpOp_val rfl (wanted_none rfl) ?_ (fK (.slice A2 i cap2) fW (hR_ fW) (by rw [hT]; exact rfl) (hP_ 7 _ fy fW rfl hJ))
          clear fK hE hF hJ hN
          rcases A2 with _ | ad0
          · obtain ⟨e1, e2, _⟩ := HR5.out.nil_n
            subst e1
            subst e2
            obtain rfl : i = 0 := by omega
            go_simp
          · go_simp
            all_goals first | omega | (intro h; omega)
        refine stepsAll_cons (k := 8) ?_ ?_
        · intro fa fx fW fy hF hN hJ hE K fK
          have hJ : G (fy 1) (fy 8) (fy 10) (fy 11) (fy 18) fW := hJ
          have q1 : (FactS.any : FactS S_).p (fx 1) fW := by have q := (hE ⟨1, .data⟩ (by simp) rfl).2; rw [hT] at q; exact q
          have y1 : fy 1 = some (fx 1) := (hE ⟨1, .data⟩ (by simp) rfl).1
          have q7 : fx 7 = .slice A2 i cap2 := by have q := (hE ⟨7, .data⟩ (by simp) rfl).2; rw [hT] at q; exact q
          have ev71 : fa.tmps[71]?.getD undef = fx 1 := hF.ev 1 71 (by kernel_rfl)
          have ev77 : fa.tmps[77]?.getD undef = .slice A2 i cap2 := (hF.ev 7 77 (by kernel_rfl)).trans q7
          rw [hG, hN, y1] at hJ
          obtain ⟨⟨i1, i2, i3⟩, j1, j2, j3, j4⟩ := hJ
          have a11 : fy 11 = none := by cases h : fy 11 with | none => rfl | some u => rw [h] at i2; exact absurd (i2 rfl).1 (by simp)
          have a18 : fy 18 = none := by cases h : fy 18 with | none => rfl | some u => rw [h, a11] at i3; exact absurd (i3 rfl) (by simp)
          have k1 := j1 a18
          rw [a11] at k1
          have ho := k1.hx _ rfl rfl
          have hrA := j2.rds hr7.out hAS
          refine wpOp_list rfl (apn (w0 := fW) B rfl _ _ 22 3 _ 1 8 (by rfl) Try.underlying22 info_hint rfl (by decide) (by decide) (fx 1) 0 [] _ i cap2 (nums .i64 (keys.take i)) (by clear fK hE hF hN i1 i2 i3 j1 j2 j3 j4 k1; go_simp) (by clear fK hE hF hN i1 i2 i3 j1 j2 j3 j4 k1; go_simp) hrA (nums_one _ _) ho (Below.refl _ _) k1.hB (by omega) ?_)
          intro v1 w1 p1 p2 p3 p4
          rw [Nat.zero_add, List.nil_append] at p1
          have hch : Chg S0 fW w1 := Chg.of_grown p3 (fun k e => by rw [hS0]; exact own_base ho k e)
          refine fK _ _ (by rw [hS_]; exact hch) (by rw [hT]; exact trivial) ?_
          show G (fy 1) (some v1) (fy 10) (fy 11) (fy 18) w1
          rw [hG, a11, a18, y1]
          exact ⟨⟨(fun _ => rfl), (fun h => by cases h), (fun h => by cases h)⟩, fun _ => k1.a_ p1 p3 p4, j2.trans hch, Nat.le_trans j3 hch.size, fun u e => by cases e⟩
        refine stepsAll_cons (k := 9) ?_ ?_
        · intro fa fx fW fy hF hN hJ hE K fK
          have hJ : G (fy 1) (fy 8) (fy 10) (fy 11) (fy 18) fW := hJ
          have ev2 : fa.tmps[2]?.getD undef = .int .i64 key := hF.eo 2 (by kernel_rfl)
          refine wpOp_val rfl (wanted_none rfl) ?_ (fK (.int .i64 key) fW (hR_ fW) (by rw [hT]; exact rfl) (hP_ 9 _ fy fW rfl hJ))
          clear fK hE hF hJ hN
          go_simp
        refine stepsAll_cons (k := 10) ?_ ?_
        · intro fa fx fW fy hF hN hJ hE K fK
          have hJ : G (fy 1) (fy 8) (fy 10) (fy 11) (fy 18) fW := hJ
          have q9 : fx 9 = .int .i64 key := by have q := (hE ⟨9, .data⟩ (by simp) rfl).2; rw [hT] at q; exact q
          have ev79 : fa.tmps[79]?.getD undef = .int .i64 key := (hF.ev 9 79 (by kernel_rfl)).trans q9
          rw [hG, hN] at hJ
          obtain ⟨⟨i1, i2, i3⟩, j1, j2, j3, j4⟩ := hJ
          have a11 : fy 11 = none := by cases h : fy 11 with | none => rfl | some u => rw [h] at i2; exact absurd (i2 rfl).2 (by simp)
          have a18 : fy 18 = none := by cases h : fy 18 with | none => rfl | some u => rw [h, a11] at i3; exact absurd (i3 rfl) (by simp)
          have k1 := j1 a18
          rw [a11] at k1
          have hal : Below fW.heap.size fW (fW.alloc (.cells [.int .i64 key].toArray 3)) := below_al (Below.refl _ _) _
          refine wpOp_to rfl (wanted_none rfl) (v := .slice (some ⟨fW.heap.size, 0, none⟩) 1 1) (W' := fW.alloc (.cells [.int .i64 key].toArray 3)) (by clear fK hE hF hN i1 i2 i3 j1 j2 j3 j4 k1; go_simp) (fK _ _ (by rw [hS_]; exact Chg.of_below hal) (by rw [hT]; exact trivial) ?_)
          show G (fy 1) (fy 8) (some _) (fy 11) (fy 18) _
          rw [hG, a11, a18]
          exact ⟨⟨i1, (fun h => by cases h), (fun h => by cases h)⟩, fun _ => k1.l_ rfl, j2.trans (Chg.of_below hal), Nat.le_trans j3 hal.size, fun u e => by cases e⟩
        refine stepsAll_cons (k := 11) ?_ ?_
        · intro fa fx fW fy hF hN hJ hE K fK
          have hJ : G (fy 1) (fy 8) (fy 10) (fy 11) (fy 18) fW := hJ
          have q8 : (FactS.any : FactS S_).p (fx 8) fW := by have q := (hE ⟨8, .data⟩ (by simp) rfl).2; rw [hT] at q; exact q
          have y8 : fy 8 = some (fx 8) := (hE ⟨8, .data⟩ (by simp) rfl).1
          have q10 : (FactS.any : FactS S_).p (fx 10) fW := by have q := (hE ⟨10, .data⟩ (by simp) rfl).2; rw [hT] at q; exact q
          have y10 : fy 10 = some (fx 10) := (hE ⟨10, .data⟩ (by simp) rfl).1
          have ev78 : fa.tmps[78]?.getD undef = fx 8 := hF.ev 8 78 (by kernel_rfl)
          have ev80 : fa.tmps[80]?.getD undef = fx 10 := hF.ev 10 80 (by kernel_rfl)
          rw [hG, hN, y8, y10] at hJ
          obtain ⟨⟨i1, i2, i3⟩, j1, j2, j3, j4⟩ := hJ
          have a18 : fy 18 = none := by cases h : fy 18 with | none => rfl | some u => rw [h] at i3; exact absurd (i3 rfl) (by simp)
          have k1 := j1 a18
          have ho := k1.ha _ rfl rfl
          obtain ⟨gl, hl1, hl2, hl3, _, _⟩ := k1.hl _ rfl rfl
          refine wpOp_list rfl (apn (w0 := fW) B rfl _ _ 22 3 _ 1 8 (by rfl) Try.underlying22 info_hint rfl (by decide) (by decide) (fx 8) i (nums .i64 (keys.take i)) (some ⟨gl, 0, none⟩) 1 1 [.int .i64 key] (by clear fK hE hF hN i1 i2 i3 j1 j2 j3 j4 k1; go_simp) (by clear fK hE hF hN i1 i2 i3 j1 j2 j3 j4 k1; rw [hl1] at ev80; go_simp) hl3 (by intro u hu; simp at hu; subst hu; rfl) ho (Below.refl _ _) k1.hB (by omega) ?_)
          intro v1 w1 p1 p2 p3 p4
          have hch : Chg S0 fW w1 := Chg.of_grown p3 (fun k e => by rw [hS0]; exact own_base ho k e)
          refine fK _ _ (by rw [hS_]; exact hch) (by rw [hT]; exact trivial) ?_
          show G (fy 1) (fy 8) (fy 10) (some v1) (fy 18) w1
          rw [hG, a18, y8, y10]
          exact ⟨⟨(fun _ => i1 rfl), (fun _ => ⟨rfl, rfl⟩), (fun h => by cases h)⟩, fun _ => k1.d_ hch.size p1, j2.trans hch, Nat.le_trans j3 hch.size, fun u e => by cases e⟩
        refine stepsAll_cons (k := 12) ?_ ?_
        · intro fa fx fW fy hF hN hJ hE K fK
          have hJ : G (fy 1) (fy 8) (fy 10) (fy 11) (fy 18) fW := hJ
          have ev0 : fa.tmps[0]?.getD undef = .pointer (some ⟨mb, 0, none⟩) := hF.eo 0 (by kernel_rfl)
          refine wpOp_val rfl (wanted_none rfl) ?_ (fK (.pointer (some ⟨mb, 0, none⟩)) fW (hR_ fW) (by rw [hT]; exact rfl) (hP_ 12 _ fy fW rfl hJ))
          clear fK hE hF hJ hN
          go_simp
        refine stepsAll_cons (k := 13) ?_ ?_
        · intro fa fx fW fy hF hN hJ hE K fK
          have hJ : G (fy 1) (fy 8) (fy 10) (fy 11) (fy 18) fW := hJ
          have q12 : fx 12 = .pointer (some ⟨mb, 0, none⟩) := by have q := (hE ⟨12, .data⟩ (by simp) rfl).2; rw [hT] at q; exact q
          have ev82 : fa.tmps[82]?.getD undef = .pointer (some ⟨mb, 0, none⟩) := (hF.ev 12 82 (by kernel_rfl)).trans q12
          refine wpOp_val rfl (wanted_none rfl) ?_ (fK (.pointer (some ⟨mb, 0, none⟩)) fW (hR_ fW) (by rw [hT]; exact rfl) (hP_ 13 _ fy fW rfl hJ))
          clear fK hE hF hJ hN
          go_simp
        refine stepsAll_cons (k := 14) ?_ ?_
        · intro fa fx fW fy hF hN hJ hE K fK
          have hJ : G (fy 1) (fy 8) (fy 10) (fy 11) (fy 18) fW := hJ
          have q13 : fx 13 = .pointer (some ⟨mb, 0, none⟩) := by have q := (hE ⟨13, .data⟩ (by simp) rfl).2; rw [hT] at q; exact q
          have ev83 : fa.tmps[83]?.getD undef = .pointer (some ⟨mb, 0, none⟩) := (hF.ev 13 83 (by kernel_rfl)).trans q13
          refine wpOp_val rfl (wanted_none rfl) ?_ (fK (.pointer (some ⟨mb, 2, none⟩)) fW (hR_ fW) (by rw [hT]; exact rfl) (hP_ 14 _ fy fW rfl hJ))
          clear fK hE hF hJ hN
          go_simp
        refine stepsAll_cons (k := 15) ?_ ?_
        · intro fa fx fW fy hF hN hJ hE K fK
          have hJ : G (fy 1) (fy 8) (fy 10) (fy 11) (fy 18) fW := hJ
          have q14 : fx 14 = .pointer (some ⟨mb, 2, none⟩) := by have q := (hE ⟨14, .data⟩ (by simp) rfl).2; rw [hT] at q; exact q
          have ev84 : fa.tmps[84]?.getD undef = .pointer (some ⟨mb, 2, none⟩) := (hF.ev 14 84 (by kernel_rfl)).trans q14
          have hJ1 := hJ
          rw [hG] at hJ1
          have k0 := (hbx.keep hJ1.2.2.1 hbS).cell
          clear hJ1
          refine wpOp_val rfl (wanted_none rfl) ?_ (fK (.slice A2 n cap2) fW (hR_ fW) (by rw [hT]; exact rfl) (hP_ 15 _ fy fW rfl hJ))
          clear fK hE hF hJ hN
          go_simp
        refine stepsAll_cons (k := 16) ?_ ?_
        · intro fa fx fW fy hF hN hJ hE K fK
          have hJ : G (fy 1) (fy 8) (fy 10) (fy 11) (fy 18) fW := hJ
          have ev6 : fa.tmps[6]?.getD undef = .int .i64 i := hF.eo 6 (by kernel_rfl)
          refine wpOp_val rfl (wanted_none rfl) ?_ (fK (.int .i64 i) fW (hR_ fW) (by rw [hT]; exact rfl) (hP_ 16 _ fy fW rfl hJ))
          clear fK hE hF hJ hN
          go_simp
        refine stepsAll_cons (k := 17) ?_ ?_
        · intro fa fx fW fy hF hN hJ hE K fK
          have hJ : G (fy 1) (fy 8) (fy 10) (fy 11) (fy 18) fW := hJ
          have q15 : fx 15 = .slice A2 n cap2 := by have q := (hE ⟨15, .data⟩ (by simp) rfl).2; rw [hT] at q; exact q
          have q16 : fx 16 = .int .i64 i := by have q := (hE ⟨16, .data⟩ (by simp) rfl).2; rw [hT] at q; exact q
          have ev85 : fa.tmps[85]?.getD undef = .slice A2 n cap2 := (hF.ev 15 85 (by kernel_rfl)).trans q15
          have ev86 : fa.tmps[86]?.getD undef = .int .i64 i := (hF.ev 16 86 (by kernel_rfl)).trans q16
          refine wpOp_val rfl (wanted_none rfl) ?_ (fK (.slice A17 (n - i) (cap2 - i)) fW (hR_ fW) (by rw [hT]; exact rfl) (hP_ 17 _ fy fW rfl hJ))
          clear fK hE hF hJ hN
          rw [HA17.out]
          rcases A2 with _ | ad0
          · obtain ⟨e1, e2, _⟩ := HR5.out.nil_n
            subst e1
            subst e2
            obtain rfl : i = 0 := by omega
            go_simp
          · go_simp
            by_cases hcc : cap2 = i <;> simp [hcc]
        refine stepsAll_cons (k := 18) ?_ ?_
        · intro fa fx fW fy hF hN hJ hE K fK
          have hJ : G (fy 1) (fy 8) (fy 10) (fy 11) (fy 18) fW := hJ
          have q11 : (FactS.any : FactS S_).p (fx 11) fW := by have q := (hE ⟨11, .data⟩ (by simp) rfl).2; rw [hT] at q; exact q
          have y11 : fy 11 = some (fx 11) := (hE ⟨11, .data⟩ (by simp) rfl).1
          have q17 : fx 17 = .slice A17 (n - i) (cap2 - i) := by have q := (hE ⟨17, .data⟩ (by simp) rfl).2; rw [hT] at q; exact q
          have ev81 : fa.tmps[81]?.getD undef = fx 11 := hF.ev 11 81 (by kernel_rfl)
          have ev87 : fa.tmps[87]?.getD undef = .slice A17 (n - i) (cap2 - i) := (hF.ev 17 87 (by kernel_rfl)).trans q17
          rw [hG, hN, y11] at hJ
          obtain ⟨⟨i1, i2, i3⟩, j1, j2, j3, j4⟩ := hJ
          have k1 := j1 rfl
          have ho := k1.hd _ rfl
          have hrA := j2.rds hr17.out hAS17
          refine wpOp_list rfl (apn (w0 := fW) B rfl _ _ 22 3 _ 1 8 (by rfl) Try.underlying22 info_hint rfl (by decide) (by decide) (fx 11) (i + 1) (nums .i64 (keys.take i) ++ [.int .i64 key]) A17 (n - i) (cap2 - i) (nums .i64 (keys.drop i)) (by clear fK hE hF hN i1 i2 i3 j1 j2 j3 j4 k1; go_simp) (by clear fK hE hF hN i1 i2 i3 j1 j2 j3 j4 k1; go_simp) hrA (nums_one _ _) ho (Below.refl _ _) k1.hB (by omega) ?_)
          intro v1 w1 p1 p2 p3 p4
          have hch : Chg S0 fW w1 := Chg.of_grown p3 (fun k e => by rw [hS0]; exact own_base ho k e)
          refine fK _ _ (by rw [hS_]; exact hch) (by rw [hT]; exact trivial) ?_
          show G (fy 1) (fy 8) (fy 10) (fy 11) (some v1) w1
          rw [hG, y11]
          exact ⟨⟨i1, (fun _ => i2 rfl), (fun _ => rfl)⟩, (fun e => by cases e), j2.trans hch, Nat.le_trans j3 hch.size, fun u e => by cases e; exact p1⟩
        refine stepsAll_cons (k := 19) ?_ ?_
        · intro fa fx fW fy hF hN hJ hE K fK
          have hJ : G (fy 1) (fy 8) (fy 10) (fy 11) (fy 18) fW := hJ
          have q0 : fx 0 = .pointer (some ⟨mb, 0, none⟩) := by have q := (hE ⟨0, .data⟩ (by simp) rfl).2; rw [hT] at q; exact q
          have ev70 : fa.tmps[70]?.getD undef = .pointer (some ⟨mb, 0, none⟩) := (hF.ev 0 70 (by kernel_rfl)).trans q0
          refine wpOp_val rfl (wanted_none rfl) ?_ (fK (.pointer (some ⟨mb, 0, none⟩)) fW (hR_ fW) (by rw [hT]; exact rfl) (hP_ 19 _ fy fW rfl hJ))
          clear fK hE hF hJ hN
          go_simp
        refine stepsAll_cons (k := 20) ?_ ?_
        · intro fa fx fW fy hF hN hJ hE K fK
          have hJ : G (fy 1) (fy 8) (fy 10) (fy 11) (fy 18) fW := hJ
          have q19 : fx 19 = .pointer (some ⟨mb, 0, none⟩) := by have q := (hE ⟨19, .data⟩ (by simp) rfl).2; rw [hT] at q; exact q
          have ev89 : fa.tmps[89]?.getD undef = .pointer (some ⟨mb, 0, none⟩) := (hF.ev 19 89 (by kernel_rfl)).trans q19
          refine wpOp_val rfl (wanted_none rfl) ?_ (fK (.pointer (some ⟨mb, 2, none⟩)) fW (hR_ fW) (by rw [hT]; exact rfl) (hP_ 20 _ fy fW rfl hJ))
          clear fK hE hF hJ hN
          go_simp
        exact stepsAll_nil
      intro fa fx fW fy hF hJ0 hx
      have y1 : fy 1 = some (fx 1) := (hx 1 (by decide)).1
      have y8 : fy 8 = some (fx 8) := (hx 8 (by decide)).1
      have y10 : fy 10 = some (fx 10) := (hx 10 (by decide)).1
      have y11 : fy 11 = some (fx 11) := (hx 11 (by decide)).1
      have y18 : fy 18 = some (fx 18) := (hx 18 (by decide)).1
      have hJ : G (fy 1) (fy 8) (fy 10) (fy 11) (fy 18) fW := hJ0
      clear hJ0
      rw [y1, y8, y10, y11, y18] at hJ
      have q18 : (FactS.any : FactS S_).p (fx 18) fW := by have q := (hx 18 (by decide)).2; rw [hT] at q; exact q
      have ev88 : fa.tmps[88]?.getD undef = fx 18 := hF.ev 18 88 (by kernel_rfl)
      have q20 : fx 20 = .pointer (some ⟨mb, 2, none⟩) := by have q := (hx 20 (by decide)).2; rw [hT] at q; exact q
      have ev90 : fa.tmps[90]?.getD undef = .pointer (some ⟨mb, 2, none⟩) := (hF.ev 20 90 (by kernel_rfl)).trans q20
      rw [hG] at hJ
      obtain ⟨_, _, jc, jb, jo⟩ := hJ
      have ho := jo _ rfl
      have hbz := hbx.keep jc hbS
      have c0 := hbz.cell
      have f0 := hbz.free
      obtain ⟨Ae, ce, hse⟩ := own_slice ho
      refine wpOp_fin rfl (wanted_none rfl) rfl (W' := fW.setCell ⟨mb, 2, none⟩ (fx 18)) ?_ ?_
      · clear hF hx
        rw [hse] at ev88 ⊢
        go_simp
      refine tail_end ?_
      rw [hF.eq]
      clear hF hx hT T hP_ hR_ y1 y8 y10 y11 y18
      simp only [putAll, Act.put, List.setIfInBounds_toArray, List.set_cons_zero, List.set_cons_succ, ]
      have hbel : Below W5.heap.size W5 fW := jc.toBelow (Below.refl _ _) (Nat.le_refl _) (fun k e => by rw [hS0] at e; omega)
      have ho2 : fW.ownsRow B 3 1 (fx 18) (i + 1 + (n - i)) (nums .i64 (keys.take i ++ [key] ++ keys.drop i)) := by rw [nums_append, nums_append]; exact ho
      have HFIN := Lib.hid (rf_set2 (show (ids.take i ++ [x] ++ ids.drop i).length = i + 1 + (n - i) by simp only [List.length_append, List.length_take, List.length_drop, List.length_singleton]; rw [HNL.out]; omega) HS0.out HS1.out HS2.out HS3.out HS5.out HLB.out hbel hB ho2)
      have HC7 : Hid (Chg (fun k => k = mb) w (fW.setCell ⟨mb, 2, none⟩ (fx 18))) := (HC6.out.trans (Chg.of_below hbel)).setCell _ _ _ rfl
      have HU2 : Hid (∀ k, (fx 18).ownBlock = some k → w.heap.size ≤ k) := Lib.hid (fun k e => by have h1 := own_base ho2 k e; have h2 := HC6.out.size; omega)
      clear hbel ho ho2 jc jb jo hbz c0 f0 hse hbx hcapn hAS hAS17 hr7 hr17 HA17 hbS HR5 HRF hB hS0 hG
      go_wp2
      go_end0
      exact ⟨rfl, i, u1, fx 18, hin, HLO, HST, HFIN, HC7, Lib.hid (fun k h => h.elim (HU1.out k) (HU2.out k))⟩
end Go.Proofs.Ytopikpjagjnbhaa

/- The document's heap: out. -/
namespace Go.Proofs.Ytopikpjagjnbhaa
open Go.RowKit
variable {w : World} {base mb : Nat} {most : Int} {v1 v2 : Value} {ids : List Nat} {keys : List Int}
theorem rf_out1 {W5 fW : World} {A : Option Addr} {n cap B m : Nat} {l : List Nat} {u : Value} (hn : ids.length = n) (R : Rf W5 base mb most (.slice A n cap) v2 ids keys) (hb : Below W5.heap.size W5 fW) (hB : B = W5.heap.size) (ho : fW.ownsRow B 3 1 u m (nums .i64 (zs l))) :
    Box (fW.setCell ⟨mb, 1, none⟩ u) mb 0 (.int .i64 most) ∧ Box (fW.setCell ⟨mb, 1, none⟩ u) mb 1 u ∧ Box (fW.setCell ⟨mb, 1, none⟩ u) mb 2 v2 ∧ (fW.setCell ⟨mb, 1, none⟩ u).ownsRow base 3 1 u m (nums .i64 (zs l)) ∧ (fW.setCell ⟨mb, 1, none⟩ u).ownsRow base 3 1 v2 n (nums .i64 keys) ∧ u.ownBlock ≠ some mb ∧ (∀ k, u.ownBlock = some k → W5.heap.size ≤ k) := by
  have hml := R.mo.lt
  have hub : ∀ k, u.ownBlock = some k → W5.heap.size ≤ k := fun k e => by rw [← hB]; exact own_base ho k e
  have c1 : Chg (fun k => k = mb) fW (fW.setCell ⟨mb, 1, none⟩ u) := (Chg.refl _ _).setCell _ _ _ rfl
  have R1 := R.below hb
  have hsz := hb.size
  have hlb := R.lb
  refine ⟨R1.mo.set_other _ (by decide), R1.ib.set _, R1.kb.set_other _ (by decide), ?_, ?_, fun e => by have := hub mb e; omega, hub⟩
  · exact c1.own (own_mono ho (show base ≤ B by omega)) (fun k e => by have := hub k e; omega)
  · have h2 := R1.ko
    rw [hn] at h2
    exact c1.own h2 (fun k e e2 => R.n2 (by rw [← e2]; exact e))
set_option maxRecDepth 100000 in
set_option maxHeartbeats 8000000 in
theorem rfout (R : Rf w base mb most v1 v2 ids keys) (i : Nat) (z : Int) (hz : z = (i : Int)) (hi : i < ids.length) (hn : ids.length ≤ 4096) :
    Calls Try.prog 52 #[.pointer (some ⟨mb, 0, none⟩), .int .i64 z] w fun e w' => e = .returned (.tuple #[]) ∧ ∃ (u1 u2 : Value), Hid (Rf w' base mb most u1 u2 (ids.take i ++ ids.drop (i + 1)) (keys.take i ++ keys.drop (i + 1))) ∧ Hid (Chg (fun k => k = mb) w w') ∧ Hid (∀ k, u1.ownBlock = some k ∨ u2.ownBlock = some k → w.heap.size ≤ k) := by
  subst hz
  obtain ⟨n, hnl⟩ : ∃ n, ids.length = n := ⟨_, rfl⟩
  have HNL := Lib.hid hnl
  obtain ⟨A, cap, rfl⟩ : ∃ A cap, v1 = .slice A n cap := by
    obtain ⟨A, cap, h⟩ := own_slice R.io
    rw [hnl] at h
    exact ⟨A, cap, h⟩
  obtain ⟨A2, cap2, rfl⟩ : ∃ A2 cap2, v2 = .slice A2 n cap2 := by
    obtain ⟨A2, cap2, h⟩ := own_slice R.ko
    rw [hnl] at h
    exact ⟨A2, cap2, h⟩
  rw [hnl] at hn hi
  have HRF := Lib.hid R
  clear R hnl
  obtain ⟨W5, rfl⟩ : ∃ x, x = w := ⟨_, rfl⟩
  go_enter Try.func52, Try.ntmps52
  go_wp2
  have hr5 := (own_rds' HRF.out.io).2
  rw [HNL.out] at hr5
  have HR5 := Lib.hid hr5
  clear hr5
  obtain ⟨B, hB⟩ : ∃ B, B = W5.heap.size := ⟨_, rfl⟩
  obtain ⟨S0, hS0⟩ : ∃ S0 : Nat → Prop, S0 = fun k => B ≤ k := ⟨_, rfl⟩
  have hbS : ¬ S0 mb := by rw [hS0]; have := HRF.out.mo.lt; omega
  have hAS : ∀ ad, A = some ad → ¬ S0 ad.block := fun ad e => by
    rw [hS0]
    have h1 := HRF.out.io.lt ad.block (by rw [e]; rfl)
    omega
  have hr7 := Lib.hid (HR5.out.take_ i (by omega))
  rw [Nat.mul_one, nums_takeI] at hr7
  have hr17 := Lib.hid (HR5.out.restI (N := i + 1) (by omega))
  rw [nums_dropI] at hr17
  obtain ⟨A17, hA17⟩ : ∃ A17, A17 = A.map (fun ad => if cap = i + 1 then ad else ad.add (i + 1)) := ⟨_, rfl⟩
  rw [← hA17] at hr17
  have HA17 := Lib.hid hA17
  have hAS17 : ∀ ad, A17 = some ad → ¬ S0 ad.block := fun ad e => by
    rw [hA17] at e
    cases hAA : A with
    | none => rw [hAA] at e; cases e
    | some ad0 =>
      rw [hAA] at e
      have h2 := hAS ad0 hAA
      have h3 : (if cap = i + 1 then ad0 else ad0.add (i + 1)) = ad := by simpa using e
      rw [← h3]
      split
      · exact h2
      · have h4 : (ad0.add (i + 1)).block = ad0.block := by unfold Addr.add; split <;> rfl
        rw [h4]
        exact h2
  clear hA17
  have hcapn : n ≤ cap := HR5.out.le
  have hbx := HRF.out.ib
  obtain ⟨G, hG⟩ : ∃ G : Option Value → Option Value → Option Value → World → Prop, ∀ xx aa dd W, G xx aa dd W = (((aa.isSome = true → xx.isSome = true) ∧ (dd.isSome = true → aa.isSome = true)) ∧ Ch2 3 1 B i (n - (i + 1)) (nums .i64 ((zs ids).take i)) (nums .i64 ((zs ids).drop (i + 1))) xx aa none dd W ∧ Chg S0 W5 W ∧ B ≤ W.heap.size) := ⟨_, fun _ _ _ _ => rfl⟩
  obtain ⟨S_, hS_⟩ : ∃ S_ : World → World → Prop, S_ = (Chg S0) := ⟨_, rfl⟩
  have hR_ : ∀ W, S_ W W := by intro W; rw [hS_]; exact Chg.refl _ _
  obtain ⟨T, hT⟩ : ∃ T : Nat → FactS S_, ∀ t_, T t_ = ([FactS.eq (.pointer (some ⟨mb, 0, none⟩)), FactS.any, FactS.eq (.pointer (some ⟨mb, 0, none⟩)), FactS.eq (.pointer (some ⟨mb, 0, none⟩)), FactS.eq (.pointer (some ⟨mb, 1, none⟩)), FactS.eq (.slice A n cap), FactS.eq (.int .i64 i), FactS.eq (.slice A i cap), FactS.any, FactS.eq (.pointer (some ⟨mb, 0, none⟩)), FactS.eq (.pointer (some ⟨mb, 0, none⟩)), FactS.eq (.pointer (some ⟨mb, 1, none⟩)), FactS.eq (.slice A n cap), FactS.eq (.int .i64 i), FactS.eq (.int .i64 ((i : Int) + 1)), FactS.eq (.slice A17 (n - (i + 1)) (cap - (i + 1))), FactS.any, FactS.eq (.pointer (some ⟨mb, 0, none⟩)), FactS.eq (.pointer (some ⟨mb, 1, none⟩)), FactS.eq (undef)] : List (FactS S_)).getD t_ FactS.any := ⟨_, fun _ => rfl⟩
  have hP_ : ∀ i_ v_ (y_ : Nat → Option Value) W_, ([1, 8, 16].contains i_) = false → G (y_ 1) (y_ 8) (y_ 16) W_ → G (updY y_ i_ v_ 1) (updY y_ i_ v_ 8) (updY y_ i_ v_ 16) W_ := by
    intro i_ v_ y_ W_ hi_ h_
    simp only [List.contains_cons, List.contains_nil, Bool.or_false, Bool.or_eq_false_iff, beq_eq_false_iff_ne, ne_eq] at hi_
    obtain ⟨i1_, i8_, i16_⟩ := hi_
    rw [updY_ne y_ i_ v_ i1_, updY_ne y_ i_ v_ i8_, updY_ne y_ i_ v_ i16_]
    exact h_
  refine region_tabU 19 [(0, 4), (1, 5), (2, 6), (3, 7), (4, 8), (5, 9), (6, 10), (7, 11), (8, 12), (9, 13), (10, 14), (11, 15), (12, 16), (13, 17), (14, 18), (15, 19), (16, 20), (17, 21), (18, 22)] T (fun y_ W_ => G (y_ 1) (y_ 8) (y_ 16) W_) (by kernel_rfl) (by kernel_rfl) (by kernel_rfl) (by kernel_rfl) (by kernel_rfl) (by kernel_rfl) (by kernel_rfl) ?_ ?_ ?_
  · skip
    show G none none none _
    rw [hG]
    exact ⟨⟨(fun h => by cases h), (fun h => by cases h)⟩, Ch2.none_ (by rw [hB]; simp), (Chg.refl _ _).drewN 1, by rw [hB]; simp⟩
  · skip
    refine stepsAll_cons (k := 0) ?_ ?_
    · intro fa fx fW fy hF hN hJ hE K fK
      have hJ : G (fy 1) (fy 8) (fy 16) fW := hJ
      have ev0 : fa.tmps[0]?.getD undef = .pointer (some ⟨mb, 0, none⟩) := hF.eo 0 (by kernel_rfl)
      refine wpOp_val rfl (wanted_none rfl) ?_ (fK (.pointer (some ⟨mb, 0, none⟩)) fW (hR_ fW) (by rw [hT]; exact rfl) (hP_ 0 _ fy fW rfl hJ))
      clear fK hE hF hJ hN
      go_simp
    refine stepsAll_cons (k := 1) ?_ ?_
    · intro fa fx fW fy hF hN hJ hE K fK
      have hJ : G (fy 1) (fy 8) (fy 16) fW := hJ
      rw [hG, hN] at hJ
      obtain ⟨⟨i1, i2⟩, j1, j2, j3⟩ := hJ
      have a8 : fy 8 = none := by cases h : fy 8 with | none => rfl | some u => rw [h] at i1; exact absurd (i1 rfl) (by simp)
      have a16 : fy 16 = none := by cases h : fy 16 with | none => rfl | some u => rw [h, a8] at i2; exact absurd (i2 rfl) (by simp)
      rw [a8, a16] at j1
      have hal : Below fW.heap.size fW (fW.alloc (.cells #[] 3)) := below_al (Below.refl _ _) _
      refine wpOp_to rfl (wanted_none rfl) (v := .slice (some ⟨fW.heap.size, 0, none⟩) 0 0) (W' := fW.alloc (.cells #[] 3)) (by clear fK hE hF hN i1 i2 j1 j2 j3; go_simp) (fK _ _ (by rw [hS_]; exact Chg.of_below hal) (by rw [hT]; exact trivial) ?_)
      show G (some _) (fy 8) (fy 16) _
      rw [hG, a8, a16]
      exact ⟨⟨(fun h => by cases h), (fun h => by cases h)⟩, j1.x_, j2.trans (Chg.of_below hal), Nat.le_trans j3 hal.size⟩
    refine stepsAll_cons (k := 2) ?_ ?_
    · intro fa fx fW fy hF hN hJ hE K fK
      have hJ : G (fy 1) (fy 8) (fy 16) fW := hJ
      have ev0 : fa.tmps[0]?.getD undef = .pointer (some ⟨mb, 0, none⟩) := hF.eo 0 (by kernel_rfl)
      refine wpOp_val rfl (wanted_none rfl) ?_ (fK (.pointer (some ⟨mb, 0, none⟩)) fW (hR_ fW) (by rw [hT]; exact rfl) (hP_ 2 _ fy fW rfl hJ))
      clear fK hE hF hJ hN
      go_simp
    refine stepsAll_cons (k := 3) ?_ ?_
    · intro fa fx fW fy hF hN hJ hE K fK
      have hJ : G (fy 1) (fy 8) (fy 16) fW := hJ
      have q2 : fx 2 = .pointer (some ⟨mb, 0, none⟩) := by have q := (hE ⟨2, .data⟩ (by simp) rfl).2; rw [hT] at q; exact q
      have ev6 : fa.tmps[6]?.getD undef = .pointer (some ⟨mb, 0, none⟩) := (hF.ev 2 6 (by kernel_rfl)).trans q2
      refine wpOp_val rfl (wanted_none rfl) ?_ (fK (.pointer (some ⟨mb, 0, none⟩)) fW (hR_ fW) (by rw [hT]; exact rfl) (hP_ 3 _ fy fW rfl hJ))
      clear fK hE hF hJ hN
      go_simp
    refine stepsAll_cons (k := 4) ?_ ?_
    · intro fa fx fW fy hF hN hJ hE K fK
      have hJ : G (fy 1) (fy 8) (fy 16) fW := hJ
      have q3 : fx 3 = .pointer (some ⟨mb, 0, none⟩) := by have q := (hE ⟨3, .data⟩ (by simp) rfl).2; rw [hT] at q; exact q
      have ev7 : fa.tmps[7]?.getD undef = .pointer (some ⟨mb, 0, none⟩) := (hF.ev 3 7 (by kernel_rfl)).trans q3
      refine wpOp_val rfl (wanted_none rfl) ?_ (fK (.pointer (some ⟨mb, 1, none⟩)) fW (hR_ fW) (by rw [hT]; exact rfl) (hP_ 4 _ fy fW rfl hJ))
      clear fK hE hF hJ hN
      go_simp
    refine stepsAll_cons (k := 5) ?_ ?_
    · intro fa fx fW fy hF hN hJ hE K fK
      have hJ : G (fy 1) (fy 8) (fy 16) fW := hJ
      have q4 : fx 4 = .pointer (some ⟨mb, 1, none⟩) := by have q := (hE ⟨4, .data⟩ (by simp) rfl).2; rw [hT] at q; exact q
      have ev8 : fa.tmps[8]?.getD undef = .pointer (some ⟨mb, 1, none⟩) := (hF.ev 4 8 (by kernel_rfl)).trans q4
      have hJ1 := hJ
      rw [hG] at hJ1
      have k0 := (hbx.keep hJ1.2.2.1 hbS).cell
      clear hJ1
      refine wpOp_val rfl (wanted_none rfl) ?_ (fK (.slice A n cap) fW (hR_ fW) (by rw [hT]; exact rfl) (hP_ 5 _ fy fW rfl hJ))
      clear fK hE hF hJ hN
      go_simp
    refine stepsAll_cons (k := 6) ?_ ?_
    · intro fa fx fW fy hF hN hJ hE K fK
      have hJ : G (fy 1) (fy 8) (fy 16) fW := hJ
      have ev1 : fa.tmps[1]?.getD undef = .int .i64 i := hF.eo 1 (by kernel_rfl)
      refine wpOp_val rfl (wanted_none rfl) ?_ (fK (.int .i64 i) fW (hR_ fW) (by rw [hT]; exact rfl) (hP_ 6 _ fy fW rfl hJ))
      clear fK hE hF hJ hN
      go_simp
    refine stepsAll_cons (k := 7) ?_ ?_
    · intro fa fx fW fy hF hN hJ hE K fK
      have hJ : G (fy 1) (fy 8) (fy 16) fW := hJ
      have q5 : fx 5 = .slice A n cap := by have q := (hE ⟨5, .data⟩ (by simp) rfl).2; rw [hT] at q; exact q
      have q6 : fx 6 = .int .i64 i := by have q := (hE ⟨6, .data⟩ (by simp) rfl).2; rw [hT] at q; exact q
      have ev9 : fa.tmps[9]?.getD undef = .slice A n cap := (hF.ev 5 9 (by kernel_rfl)).trans q5
      have ev10 : fa.tmps[10]?.getD undef = .int .i64 i := (hF.ev 6 10 (by kernel_rfl)).trans q6
      refine wpOp_val rfl (wanted_none rfl) ?_ (fK (.slice A i cap) fW (hR_ fW) (by rw [hT]; exact rfl) (hP_ 7 _ fy fW rfl hJ))
      clear fK hE hF hJ hN
      rcases A with _ | ad0
      · obtain ⟨e1, e2, _⟩ := HR5.out.nil_n
        exfalso
        omega
      · go_simp
        all_goals first | omega | (intro h; omega)
    refine stepsAll_cons (k := 8) ?_ ?_
    · intro fa fx fW fy hF hN hJ hE K fK
      have hJ : G (fy 1) (fy 8) (fy 16) fW := hJ
      have q1 : (FactS.any : FactS S_).p (fx 1) fW := by have q := (hE ⟨1, .data⟩ (by simp) rfl).2; rw [hT] at q; exact q
      have y1 : fy 1 = some (fx 1) := (hE ⟨1, .data⟩ (by simp) rfl).1
      have q7 : fx 7 = .slice A i cap := by have q := (hE ⟨7, .data⟩ (by simp) rfl).2; rw [hT] at q; exact q
      have ev5 : fa.tmps[5]?.getD undef = fx 1 := hF.ev 1 5 (by kernel_rfl)
      have ev11 : fa.tmps[11]?.getD undef = .slice A i cap := (hF.ev 7 11 (by kernel_rfl)).trans q7
      rw [hG, hN, y1] at hJ
      obtain ⟨⟨i1, i2⟩, j1, j2, j3⟩ := hJ
      have a16 : fy 16 = none := by cases h : fy 16 with | none => rfl | some u => rw [h] at i2; exact absurd (i2 rfl) (by simp)
      rw [a16] at j1
      have ho := j1.hx _ rfl rfl
      have hrA := j2.rds hr7.out hAS
      refine wpOp_list rfl (apn (w0 := fW) B rfl _ _ 22 3 _ 1 8 (by rfl) Try.underlying22 info_hint rfl (by decide) (by decide) (fx 1) 0 [] _ i cap (nums .i64 ((zs ids).take i)) (by clear fK hE hF hN i1 i2 j1 j2 j3; go_simp) (by clear fK hE hF hN i1 i2 j1 j2 j3; go_simp) hrA (nums_one _ _) ho (Below.refl _ _) j1.hB (by omega) ?_)
      intro v1 w1 p1 p2 p3 p4
      rw [Nat.zero_add, List.nil_append] at p1
      have hch : Chg S0 fW w1 := Chg.of_grown p3 (fun k e => by rw [hS0]; exact own_base ho k e)
      refine fK _ _ (by rw [hS_]; exact hch) (by rw [hT]; exact trivial) ?_
      show G (fy 1) (some v1) (fy 16) w1
      rw [hG, a16, y1]
      exact ⟨⟨(fun _ => rfl), (fun h => by cases h)⟩, j1.a_ p1 p3 p4, j2.trans hch, Nat.le_trans j3 hch.size⟩
    refine stepsAll_cons (k := 9) ?_ ?_
    · intro fa fx fW fy hF hN hJ hE K fK
      have hJ : G (fy 1) (fy 8) (fy 16) fW := hJ
      have ev0 : fa.tmps[0]?.getD undef = .pointer (some ⟨mb, 0, none⟩) := hF.eo 0 (by kernel_rfl)
      refine wpOp_val rfl (wanted_none rfl) ?_ (fK (.pointer (some ⟨mb, 0, none⟩)) fW (hR_ fW) (by rw [hT]; exact rfl) (hP_ 9 _ fy fW rfl hJ))
      clear fK hE hF hJ hN
      go_simp
    refine stepsAll_cons (k := 10) ?_ ?_
    · intro fa fx fW fy hF hN hJ hE K fK
      have hJ : G (fy 1) (fy 8) (fy 16) fW := hJ
      have q9 : fx 9 = .pointer (some ⟨mb, 0, none⟩) := by have q := (hE ⟨9, .data⟩ (by simp) rfl).2; rw [hT] at q; exact q
      have ev13 : fa.tmps[13]?.getD undef = .pointer (some ⟨mb, 0, none⟩) := (hF.ev 9 13 (by kernel_rfl)).trans q9
      refine wpOp_val rfl (wanted_none rfl) ?_ (fK (.pointer (some ⟨mb, 0, none⟩)) fW (hR_ fW) (by rw [hT]; exact rfl) (hP_ 10 _ fy fW rfl hJ))
      clear fK hE hF hJ hN
      go_simp
    refine stepsAll_cons (k := 11) ?_ ?_
    · intro fa fx fW fy hF hN hJ hE K fK
      have hJ : G (fy 1) (fy 8) (fy 16) fW := hJ
      have q10 : fx 10 = .pointer (some ⟨mb, 0, none⟩) := by have q := (hE ⟨10, .data⟩ (by simp) rfl).2; rw [hT] at q; exact q
      have ev14 : fa.tmps[14]?.getD undef = .pointer (some ⟨mb, 0, none⟩) := (hF.ev 10 14 (by kernel_rfl)).trans q10
      refine wpOp_val rfl (wanted_none rfl) ?_ (fK (.pointer (some ⟨mb, 1, none⟩)) fW (hR_ fW) (by rw [hT]; exact rfl) (hP_ 11 _ fy fW rfl hJ))
      clear fK hE hF hJ hN
      go_simp
    refine stepsAll_cons (k := 12) ?_ ?_
    · intro fa fx fW fy hF hN hJ hE K fK
      have hJ : G (fy 1) (fy 8) (fy 16) fW := hJ
      have q11 : fx 11 = .pointer (some ⟨mb, 1, none⟩) := by have q := (hE ⟨11, .data⟩ (by simp) rfl).2; rw [hT] at q; exact q
      have ev15 : fa.tmps[15]?.getD undef = .pointer (some ⟨mb, 1, none⟩) := (hF.ev 11 15 (by kernel_rfl)).trans q11
      have hJ1 := hJ
      rw [hG] at hJ1
      have k0 := (hbx.keep hJ1.2.2.1 hbS).cell
      clear hJ1
      refine wpOp_val rfl (wanted_none rfl) ?_ (fK (.slice A n cap) fW (hR_ fW) (by rw [hT]; exact rfl) (hP_ 12 _ fy fW rfl hJ))
      clear fK hE hF hJ hN
      go_simp
    refine stepsAll_cons (k := 13) ?_ ?_
    · intro fa fx fW fy hF hN hJ hE K fK
      have hJ : G (fy 1) (fy 8) (fy 16) fW := hJ
      have ev1 : fa.tmps[1]?.getD undef = .int .i64 i := hF.eo 1 (by kernel_rfl)
      refine wpOp_val rfl (wanted_none rfl) ?_ (fK (.int .i64 i) fW (hR_ fW) (by rw [hT]; exact rfl) (hP_ 13 _ fy fW rfl hJ))
      clear fK hE hF hJ hN
      go_simp
    refine stepsAll_cons (k := 14) ?_ ?_
    · intro fa fx fW fy hF hN hJ hE K fK
      have hJ : G (fy 1) (fy 8) (fy 16) fW := hJ
      have q13 : fx 13 = .int .i64 i := by have q := (hE ⟨13, .data⟩ (by simp) rfl).2; rw [hT] at q; exact q
      have ev17 : fa.tmps[17]?.getD undef = .int .i64 i := (hF.ev 13 17 (by kernel_rfl)).trans q13
      refine wpOp_val rfl (wanted_none rfl) ?_ (fK (.int .i64 ((i : Int) + 1)) fW (hR_ fW) (by rw [hT]; exact rfl) (hP_ 14 _ fy fW rfl hJ))
      clear fK hE hF hJ hN
      go_simp
      exact IntWalk.i64_in _ (by omega)
    refine stepsAll_cons (k := 15) ?_ ?_
    · intro fa fx fW fy hF hN hJ hE K fK
      have hJ : G (fy 1) (fy 8) (fy 16) fW := hJ
      have q12 : fx 12 = .slice A n cap := by have q := (hE ⟨12, .data⟩ (by simp) rfl).2; rw [hT] at q; exact q
      have q14 : fx 14 = .int .i64 ((i : Int) + 1) := by have q := (hE ⟨14, .data⟩ (by simp) rfl).2; rw [hT] at q; exact q
      have ev16 : fa.tmps[16]?.getD undef = .slice A n cap := (hF.ev 12 16 (by kernel_rfl)).trans q12
      have ev18 : fa.tmps[18]?.getD undef = .int .i64 ((i : Int) + 1) := (hF.ev 14 18 (by kernel_rfl)).trans q14
      refine wpOp_val rfl (wanted_none rfl) ?_ (fK (.slice A17 (n - (i + 1)) (cap - (i + 1))) fW (hR_ fW) (by rw [hT]; exact rfl) (hP_ 15 _ fy fW rfl hJ))
      clear fK hE hF hJ hN
      rw [HA17.out]
      rcases A with _ | ad0
      · obtain ⟨e1, e2, _⟩ := HR5.out.nil_n
        exfalso
        omega
      · go_simp
        rw [if_pos (by omega)]
        by_cases hcc : cap = i + 1 <;> simp [hcc]
    refine stepsAll_cons (k := 16) ?_ ?_
    · intro fa fx fW fy hF hN hJ hE K fK
      have hJ : G (fy 1) (fy 8) (fy 16) fW := hJ
      have q8 : (FactS.any : FactS S_).p (fx 8) fW := by have q := (hE ⟨8, .data⟩ (by simp) rfl).2; rw [hT] at q; exact q
      have y8 : fy 8 = some (fx 8) := (hE ⟨8, .data⟩ (by simp) rfl).1
      have q15 : fx 15 = .slice A17 (n - (i + 1)) (cap - (i + 1)) := by have q := (hE ⟨15, .data⟩ (by simp) rfl).2; rw [hT] at q; exact q
      have ev12 : fa.tmps[12]?.getD undef = fx 8 := hF.ev 8 12 (by kernel_rfl)
      have ev19 : fa.tmps[19]?.getD undef = .slice A17 (n - (i + 1)) (cap - (i + 1)) := (hF.ev 15 19 (by kernel_rfl)).trans q15
      rw [hG, hN, y8] at hJ
      obtain ⟨⟨i1, i2⟩, j1, j2, j3⟩ := hJ
      have ho := j1.ha _ rfl rfl
      have hrA := j2.rds hr17.out hAS17
      refine wpOp_list rfl (apn (w0 := fW) B rfl _ _ 22 3 _ 1 8 (by rfl) Try.underlying22 info_hint rfl (by decide) (by decide) (fx 8) i (nums .i64 ((zs ids).take i)) A17 (n - (i + 1)) (cap - (i + 1)) (nums .i64 ((zs ids).drop (i + 1))) (by clear fK hE hF hN i1 i2 j1 j2 j3; go_simp) (by clear fK hE hF hN i1 i2 j1 j2 j3; go_simp) hrA (nums_one _ _) ho (Below.refl _ _) j1.hB (by omega) ?_)
      intro v1 w1 p1 p2 p3 p4
      have hch : Chg S0 fW w1 := Chg.of_grown p3 (fun k e => by rw [hS0]; exact own_base ho k e)
      refine fK _ _ (by rw [hS_]; exact hch) (by rw [hT]; exact trivial) ?_
      show G (fy 1) (fy 8) (some v1) w1
      rw [hG, y8]
      exact ⟨⟨i1, (fun _ => rfl)⟩, j1.d_ hch.size p1, j2.trans hch, Nat.le_trans j3 hch.size⟩
    refine stepsAll_cons (k := 17) ?_ ?_
    · intro fa fx fW fy hF hN hJ hE K fK
      have hJ : G (fy 1) (fy 8) (fy 16) fW := hJ
      have q0 : fx 0 = .pointer (some ⟨mb, 0, none⟩) := by have q := (hE ⟨0, .data⟩ (by simp) rfl).2; rw [hT] at q; exact q
      have ev4 : fa.tmps[4]?.getD undef = .pointer (some ⟨mb, 0, none⟩) := (hF.ev 0 4 (by kernel_rfl)).trans q0
      refine wpOp_val rfl (wanted_none rfl) ?_ (fK (.pointer (some ⟨mb, 0, none⟩)) fW (hR_ fW) (by rw [hT]; exact rfl) (hP_ 17 _ fy fW rfl hJ))
      clear fK hE hF hJ hN
      go_simp
    refine stepsAll_cons (k := 18) ?_ ?_
    · intro fa fx fW fy hF hN hJ hE K fK
      have hJ : G (fy 1) (fy 8) (fy 16) fW := hJ
      have q17 : fx 17 = .pointer (some ⟨mb, 0, none⟩) := by have q := (hE ⟨17, .data⟩ (by simp) rfl).2; rw [hT] at q; exact q
      have ev21 : fa.tmps[21]?.getD undef = .pointer (some ⟨mb, 0, none⟩) := (hF.ev 17 21 (by kernel_rfl)).trans q17
      refine wpOp_val rfl (wanted_none rfl) ?_ (fK (.pointer (some ⟨mb, 1, none⟩)) fW (hR_ fW) (by rw [hT]; exact rfl) (hP_ 18 _ fy fW rfl hJ))
      clear fK hE hF hJ hN
      go_simp
    exact stepsAll_nil
  intro fa fx fW fy hF hJ0 hx
  have y1 : fy 1 = some (fx 1) := (hx 1 (by decide)).1
  have y8 : fy 8 = some (fx 8) := (hx 8 (by decide)).1
  have y16 : fy 16 = some (fx 16) := (hx 16 (by decide)).1
  have hJ : G (fy 1) (fy 8) (fy 16) fW := hJ0
  clear hJ0
  rw [y1, y8, y16] at hJ
  have q16 : (FactS.any : FactS S_).p (fx 16) fW := by have q := (hx 16 (by decide)).2; rw [hT] at q; exact q
  have ev20 : fa.tmps[20]?.getD undef = fx 16 := hF.ev 16 20 (by kernel_rfl)
  have q18 : fx 18 = .pointer (some ⟨mb, 1, none⟩) := by have q := (hx 18 (by decide)).2; rw [hT] at q; exact q
  have ev22 : fa.tmps[22]?.getD undef = .pointer (some ⟨mb, 1, none⟩) := (hF.ev 18 22 (by kernel_rfl)).trans q18
  rw [hG] at hJ
  obtain ⟨_, jd, jc, jb⟩ := hJ
  have ho := jd.hd _ rfl
  have hbz := hbx.keep jc hbS
  have c0 := hbz.cell
  have f0 := hbz.free
  obtain ⟨Ae, ce, hse⟩ := own_slice ho
  refine wpOp_fin rfl (wanted_none rfl) rfl (W' := fW.setCell ⟨mb, 1, none⟩ (fx 16)) ?_ ?_
  · clear hF hx
    rw [hse] at ev20 ⊢
    go_simp
  refine tail_end ?_
  rw [hF.eq]
  clear hF hx hT T hP_ hR_ y1 y8 y16
  simp only [putAll, Act.put, List.setIfInBounds_toArray, List.set_cons_zero, List.set_cons_succ, ]
  have hbel : Below W5.heap.size W5 fW := jc.toBelow (Below.refl _ _) (Nat.le_refl _) (fun k e => by rw [hS0] at e; omega)
  have ho1 : fW.ownsRow B 3 1 (fx 16) (i + (n - (i + 1))) (nums .i64 (zs (ids.take i ++ ids.drop (i + 1)))) := by
    have e : nums .i64 (zs (ids.take i ++ ids.drop (i + 1))) = nums .i64 ((zs ids).take i) ++ nums .i64 ((zs ids).drop (i + 1)) := by simp [nums, zs, List.map_take, List.map_drop]
    rw [e]
    exact ho
  obtain ⟨s0, s1, s2, s3, s4, s5, s6⟩ := rf_out1 HNL.out HRF.out hbel hB ho1
  have HLB := Lib.hid HRF.out.lb
  have HC6 : Hid (Chg (fun k => k = mb) W5 (fW.setCell ⟨mb, 1, none⟩ (fx 16))) := (Chg.of_below hbel).setCell _ _ _ rfl
  have HU1 : Hid (∀ k, (fx 16).ownBlock = some k → W5.heap.size ≤ k) := Lib.hid s6
  obtain ⟨u1, hu1⟩ : ∃ u, u = fx 16 := ⟨_, rfl⟩
  rw [← hu1] at s0 s1 s2 s3 s4 s5 HC6 HU1 ⊢
  have HS0 := Lib.hid s0
  have HS1 := Lib.hid s1
  have HS2 := Lib.hid s2
  have HS3 := Lib.hid s3
  have HS4 := Lib.hid s4
  have HS5 := Lib.hid s5
  clear s0 s1 s2 s3 s4 s5 s6 hbel ho ho1 jd jc jb hbz c0 f0 hse hu1 hbx hcapn hAS hAS17 hr7 hr17 HA17 hbS HR5 HRF
  obtain ⟨w, rfl⟩ : ∃ x, x = W5 := ⟨_, rfl⟩
  generalize fW.setCell ⟨mb, 1, none⟩ u1 = W6 at HS0 HS1 HS2 HS3 HS4 HC6 ⊢
  clear hB hS0 hG
  obtain ⟨W5, rfl⟩ : ∃ x, x = W6 := ⟨_, rfl⟩
  have HRF : Hid (Rk W5 base mb most (.slice A2 n cap2) n keys) := Lib.hid ⟨HS0.out, HS2.out, HS4.out⟩
  go_wp2_with fail
  have hr5 := (own_rds' HRF.out.ko).2
  have HR5 := Lib.hid hr5
  clear hr5
  obtain ⟨B, hB⟩ : ∃ B, B = W5.heap.size := ⟨_, rfl⟩
  obtain ⟨S0, hS0⟩ : ∃ S0 : Nat → Prop, S0 = fun k => B ≤ k := ⟨_, rfl⟩
  have hbS : ¬ S0 mb := by rw [hS0]; have := HRF.out.mo.lt; omega
  have hAS : ∀ ad, A2 = some ad → ¬ S0 ad.block := fun ad e => by
    rw [hS0]
    have h1 := HRF.out.ko.lt ad.block (by rw [e]; rfl)
    omega
  have hr7 := Lib.hid (HR5.out.take_ i (by omega))
  rw [Nat.mul_one, nums_takeI] at hr7
  have hr17 := Lib.hid (HR5.out.restI (N := i + 1) (by omega))
  rw [nums_dropI] at hr17
  obtain ⟨A17, hA17⟩ : ∃ A17, A17 = A2.map (fun ad => if cap2 = i + 1 then ad else ad.add (i + 1)) := ⟨_, rfl⟩
  rw [← hA17] at hr17
  have HA17 := Lib.hid hA17
  have hAS17 : ∀ ad, A17 = some ad → ¬ S0 ad.block := fun ad e => by
    rw [hA17] at e
    cases hAA : A2 with
    | none => rw [hAA] at e; cases e
    | some ad0 =>
      rw [hAA] at e
      have h2 := hAS ad0 hAA
      have h3 : (if cap2 = i + 1 then ad0 else ad0.add (i + 1)) = ad := by simpa using e
      rw [← h3]
      split
      · exact h2
      · have h4 : (ad0.add (i + 1)).block = ad0.block := by unfold Addr.add; split <;> rfl
        rw [h4]
        exact h2
  clear hA17
  have hcapn : n ≤ cap2 := HR5.out.le
  have hbx := HRF.out.kb
  obtain ⟨G, hG⟩ : ∃ G : Option Value → Option Value → Option Value → World → Prop, ∀ xx aa dd W, G xx aa dd W = (((aa.isSome = true → xx.isSome = true) ∧ (dd.isSome = true → aa.isSome = true)) ∧ Ch2 3 1 B i (n - (i + 1)) (nums .i64 (keys.take i)) (nums .i64 (keys.drop (i + 1))) xx aa none dd W ∧ Chg S0 W5 W ∧ B ≤ W.heap.size) := ⟨_, fun _ _ _ _ => rfl⟩
  obtain ⟨S_, hS_⟩ : ∃ S_ : World → World → Prop, S_ = (Chg S0) := ⟨_, rfl⟩
  have hR_ : ∀ W, S_ W W := by intro W; rw [hS_]; exact Chg.refl _ _
  obtain ⟨T, hT⟩ : ∃ T : Nat → FactS S_, ∀ t_, T t_ = ([FactS.eq (.pointer (some ⟨mb, 0, none⟩)), FactS.any, FactS.eq (.pointer (some ⟨mb, 0, none⟩)), FactS.eq (.pointer (some ⟨mb, 0, none⟩)), FactS.eq (.pointer (some ⟨mb, 2, none⟩)), FactS.eq (.slice A2 n cap2), FactS.eq (.int .i64 i), FactS.eq (.slice A2 i cap2), FactS.any, FactS.eq (.pointer (some ⟨mb, 0, none⟩)), FactS.eq (.pointer (some ⟨mb, 0, none⟩)), FactS.eq (.pointer (some ⟨mb, 2, none⟩)), FactS.eq (.slice A2 n cap2), FactS.eq (.int .i64 i), FactS.eq (.int .i64 ((i : Int) + 1)), FactS.eq (.slice A17 (n - (i + 1)) (cap2 - (i + 1))), FactS.any, FactS.eq (.pointer (some ⟨mb, 0, none⟩)), FactS.eq (.pointer (some ⟨mb, 2, none⟩)), FactS.eq (undef)] : List (FactS S_)).getD t_ FactS.any := ⟨_, fun _ => rfl⟩
  have hP_ : ∀ i_ v_ (y_ : Nat → Option Value) W_, ([1, 8, 16].contains i_) = false → G (y_ 1) (y_ 8) (y_ 16) W_ → G (updY y_ i_ v_ 1) (updY y_ i_ v_ 8) (updY y_ i_ v_ 16) W_ := by
    intro i_ v_ y_ W_ hi_ h_
    simp only [List.contains_cons, List.contains_nil, Bool.or_false, Bool.or_eq_false_iff, beq_eq_false_iff_ne, ne_eq] at hi_
    obtain ⟨i1_, i8_, i16_⟩ := hi_
    rw [updY_ne y_ i_ v_ i1_, updY_ne y_ i_ v_ i8_, updY_ne y_ i_ v_ i16_]
    exact h_
  refine region_tabU 19 [(0, 23), (1, 24), (2, 25), (3, 26), (4, 27), (5, 28), (6, 29), (7, 30), (8, 31), (9, 32), (10, 33), (11, 34), (12, 35), (13, 36), (14, 37), (15, 38), (16, 39), (17, 40), (18, 41)] T (fun y_ W_ => G (y_ 1) (y_ 8) (y_ 16) W_) (by kernel_rfl) (by kernel_rfl) (by kernel_rfl) (by kernel_rfl) (by kernel_rfl) (by kernel_rfl) (by kernel_rfl) ?_ ?_ ?_
  · skip
    show G none none none _
    rw [hG]
    exact ⟨⟨(fun h => by cases h), (fun h => by cases h)⟩, Ch2.none_ (by rw [hB]; simp), (Chg.refl _ _).drewN 1, by rw [hB]; simp⟩
  · skip
    refine stepsAll_cons (k := 0) ?_ ?_
    · intro fa fx fW fy hF hN hJ hE K fK
      have hJ : G (fy 1) (fy 8) (fy 16) fW := hJ
      have ev0 : fa.tmps[0]?.getD undef = .pointer (some ⟨mb, 0, none⟩) := hF.eo 0 (by kernel_rfl)
      refine wpOp_val rfl (wanted_none rfl) ?_ (fK (.pointer (some ⟨mb, 0, none⟩)) fW (hR_ fW) (by rw [hT]; exact rfl) (hP_ 0 _ fy fW rfl hJ))
      clear fK hE hF hJ hN
      go_simp
    refine stepsAll_cons (k := 1) ?_ ?_
    · intro fa fx fW fy hF hN hJ hE K fK
      have hJ : G (fy 1) (fy 8) (fy 16) fW := hJ
      rw [hG, hN] at hJ
      obtain ⟨⟨i1, i2⟩, j1, j2, j3⟩ := hJ
      have a8 : fy 8 = none := by cases h : fy 8 with | none => rfl | some u => rw [h] at i1; exact absurd (i1 rfl) (by simp)
      have a16 : fy 16 = none := by cases h : fy 16 with | none => rfl | some u => rw [h, a8] at i2; exact absurd (i2 rfl) (by simp)
      rw [a8, a16] at j1
      have hal : Below fW.heap.size fW (fW.alloc (.cells #[] 3)) := below_al (Below.refl _ _) _
      refine wpOp_to rfl (wanted_none rfl) (v := .slice (some ⟨fW.heap.size, 0, none⟩) 0 0) (W' := fW.alloc (.cells #[] 3)) (by clear fK hE hF hN i1 i2 j1 j2 j3; go_simp) (fK _ _ (by rw [hS_]; exact Chg.of_below hal) (by rw [hT]; exact trivial) ?_)
      show G (some _) (fy 8) (fy 16) _
      rw [hG, a8, a16]
      exact ⟨⟨(fun h => by cases h), (fun h => by cases h)⟩, j1.x_, j2.trans (Chg.of_below hal), Nat.le_trans j3 hal.size⟩
    refine stepsAll_cons (k := 2) ?_ ?_
    · intro fa fx fW fy hF hN hJ hE K fK
      have hJ : G (fy 1) (fy 8) (fy 16) fW := hJ
      have ev0 : fa.tmps[0]?.getD undef = .pointer (some ⟨mb, 0, none⟩) := hF.eo 0 (by kernel_rfl)
      refine wpOp_val rfl (wanted_none rfl) ?_ (fK (.pointer (some ⟨mb, 0, none⟩)) fW (hR_ fW) (by rw [hT]; exact rfl) (hP_ 2 _ fy fW rfl hJ))
      clear fK hE hF hJ hN
      go_simp
    refine stepsAll_cons (k := 3) ?_ ?_
    · intro fa fx fW fy hF hN hJ hE K fK
      have hJ : G (fy 1) (fy 8) (fy 16) fW := hJ
      have q2 : fx 2 = .pointer (some ⟨mb, 0, none⟩) := by have q := (hE ⟨2, .data⟩ (by simp) rfl).2; rw [hT] at q; exact q
      have ev25 : fa.tmps[25]?.getD undef = .pointer (some ⟨mb, 0, none⟩) := (hF.ev 2 25 (by kernel_rfl)).trans q2
      refine wpOp_val rfl (wanted_none rfl) ?_ (fK (.pointer (some ⟨mb, 0, none⟩)) fW (hR_ fW) (by rw [hT]; exact rfl) (hP_ 3 _ fy fW rfl hJ))
      clear fK hE hF hJ hN
      go_simp
    refine stepsAll_cons (k := 4) ?_ ?_
    · intro fa fx fW fy hF hN hJ hE K fK
      have hJ : G (fy 1) (fy 8) (fy 16) fW := hJ
      have q3 : fx 3 = .pointer (some ⟨mb, 0, none⟩) := by have q := (hE ⟨3, .data⟩ (by simp) rfl).2; rw [hT] at q; exact q
      have ev26 : fa.tmps[26]?.getD undef = .pointer (some ⟨mb, 0, none⟩) := (hF.ev 3 26 (by kernel_rfl)).trans q3
      refine wpOp_val rfl (wanted_none rfl) ?_ (fK (.pointer (some ⟨mb, 2, none⟩)) fW (hR_ fW) (by rw [hT]; exact rfl) (hP_ 4 _ fy fW rfl hJ))
      clear fK hE hF hJ hN
      go_simp
    refine stepsAll_cons (k := 5) ?_ ?_
    · intro fa fx fW fy hF hN hJ hE K fK
      have hJ : G (fy 1) (fy 8) (fy 16) fW := hJ
      have q4 : fx 4 = .pointer (some ⟨mb, 2, none⟩) := by have q := (hE ⟨4, .data⟩ (by simp) rfl).2; rw [hT] at q; exact q
      have ev27 : fa.tmps[27]?.getD undef = .pointer (some ⟨mb, 2, none⟩) := (hF.ev 4 27 (by kernel_rfl)).trans q4
      have hJ1 := hJ
      rw [hG] at hJ1
      have k0 := (hbx.keep hJ1.2.2.1 hbS).cell
      clear hJ1
      refine wpOp_val rfl (wanted_none rfl) ?_ (fK (.slice A2 n cap2) fW (hR_ fW) (by rw [hT]; exact rfl) (hP_ 5 _ fy fW rfl hJ))
      clear fK hE hF hJ hN
      go_simp
    refine stepsAll_cons (k := 6) ?_ ?_
    · intro fa fx fW fy hF hN hJ hE K fK
      have hJ : G (fy 1) (fy 8) (fy 16) fW := hJ
      have ev1 : fa.tmps[1]?.getD undef = .int .i64 i := hF.eo 1 (by kernel_rfl)
      refine wpOp_val rfl (wanted_none rfl) ?_ (fK (.int .i64 i) fW (hR_ fW) (by rw [hT]; exact rfl) (hP_ 6 _ fy fW rfl hJ))
      clear fK hE hF hJ hN
      go_simp
    refine stepsAll_cons (k := 7) ?_ ?_
    · intro fa fx fW fy hF hN hJ hE K fK
      have hJ : G (fy 1) (fy 8) (fy 16) fW := hJ
      have q5 : fx 5 = .slice A2 n cap2 := by have q := (hE ⟨5, .data⟩ (by simp) rfl).2; rw [hT] at q; exact q
      have q6 : fx 6 = .int .i64 i := by have q := (hE ⟨6, .data⟩ (by simp) rfl).2; rw [hT] at q; exact q
      have ev28 : fa.tmps[28]?.getD undef = .slice A2 n cap2 := (hF.ev 5 28 (by kernel_rfl)).trans q5
      have ev29 : fa.tmps[29]?.getD undef = .int .i64 i := (hF.ev 6 29 (by kernel_rfl)).trans q6
      refine wpOp_val rfl (wanted_none rfl) ?_ (fK (.slice A2 i cap2) fW (hR_ fW) (by rw [hT]; exact rfl) (hP_ 7 _ fy fW rfl hJ))
      clear fK hE hF hJ hN
      rcases A2 with _ | ad0
      · obtain ⟨e1, e2, _⟩ := HR5.out.nil_n
        exfalso
        omega
      · go_simp
        all_goals first | omega | (intro h; omega)
    refine stepsAll_cons (k := 8) ?_ ?_
    · intro fa fx fW fy hF hN hJ hE K fK
      have hJ : G (fy 1) (fy 8) (fy 16) fW := hJ
      have q1 : (FactS.any : FactS S_).p (fx 1) fW := by have q := (hE ⟨1, .data⟩ (by simp) rfl).2; rw [hT] at q; exact q
      have y1 : fy 1 = some (fx 1) := (hE ⟨1, .data⟩ (by simp) rfl).1
      have q7 : fx 7 = .slice A2 i cap2 := by have q := (hE ⟨7, .data⟩ (by simp) rfl).2; rw [hT] at q; exact q
      have ev24 : fa.tmps[24]?.getD undef = fx 1 := hF.ev 1 24 (by kernel_rfl)
      have ev30 : fa.tmps[30]?.getD undef = .slice A2 i cap2 := (hF.ev 7 30 (by kernel_rfl)).trans q7
      rw [hG, hN, y1] at hJ
      obtain ⟨⟨i1, i2⟩, j1, j2, j3⟩ := hJ
      have a16 : fy 16 = none := by cases h : fy 16 with | none => rfl | some u => rw [h] at i2; exact absurd (i2 rfl) (by simp)
      rw [a16] at j1
      have ho := j1.hx _ rfl rfl
      have hrA := j2.rds hr7.out hAS
      refine wpOp_list rfl (apn (w0 := fW) B rfl _ _ 22 3 _ 1 8 (by rfl) Try.underlying22 info_hint rfl (by decide) (by decide) (fx 1) 0 [] _ i cap2 (nums .i64 (keys.take i)) (by clear fK hE hF hN i1 i2 j1 j2 j3; go_simp) (by clear fK hE hF hN i1 i2 j1 j2 j3; go_simp) hrA (nums_one _ _) ho (Below.refl _ _) j1.hB (by omega) ?_)
      intro v1 w1 p1 p2 p3 p4
      rw [Nat.zero_add, List.nil_append] at p1
      have hch : Chg S0 fW w1 := Chg.of_grown p3 (fun k e => by rw [hS0]; exact own_base ho k e)
      refine fK _ _ (by rw [hS_]; exact hch) (by rw [hT]; exact trivial) ?_
      show G (fy 1) (some v1) (fy 16) w1
      rw [hG, a16, y1]
      exact ⟨⟨(fun _ => rfl), (fun h => by cases h)⟩, j1.a_ p1 p3 p4, j2.trans hch, Nat.le_trans j3 hch.size⟩
    refine stepsAll_cons (k := 9) ?_ ?_
    · intro fa fx fW fy hF hN hJ hE K fK
      have hJ : G (fy 1) (fy 8) (fy 16) fW := hJ
      have ev0 : fa.tmps[0]?.getD undef = .pointer (some ⟨mb, 0, none⟩) := hF.eo 0 (by kernel_rfl)
      refine wpOp_val rfl (wanted_none rfl) ?_ (fK (.pointer (some ⟨mb, 0, none⟩)) fW (hR_ fW) (by rw [hT]; exact rfl) (hP_ 9 _ fy fW rfl hJ))
      clear fK hE hF hJ hN
      go_simp
    refine stepsAll_cons (k := 10) ?_ ?_
    · intro fa fx fW fy hF hN hJ hE K fK
      have hJ : G (fy 1) (fy 8) (fy 16) fW := hJ
      have q9 : fx 9 = .pointer (some ⟨mb, 0, none⟩) := by have q := (hE ⟨9, .data⟩ (by simp) rfl).2; rw [hT] at q; exact q
      have ev32 : fa.tmps[32]?.getD undef = .pointer (some ⟨mb, 0, none⟩) := (hF.ev 9 32 (by kernel_rfl)).trans q9
      refine wpOp_val rfl (wanted_none rfl) ?_ (fK (.pointer (some ⟨mb, 0, none⟩)) fW (hR_ fW) (by rw [hT]; exact rfl) (hP_ 10 _ fy fW rfl hJ))
      clear fK hE hF hJ hN
      go_simp
    refine stepsAll_cons (k := 11) ?_ ?_
    · intro fa fx fW fy hF hN hJ hE K fK
      have hJ : G (fy 1) (fy 8) (fy 16) fW := hJ
      have q10 : fx 10 = .pointer (some ⟨mb, 0, none⟩) := by have q := (hE ⟨10, .data⟩ (by simp) rfl).2; rw [hT] at q; exact q
      have ev33 : fa.tmps[33]?.getD undef = .pointer (some ⟨mb, 0, none⟩) := (hF.ev 10 33 (by kernel_rfl)).trans q10
      refine wpOp_val rfl (wanted_none rfl) ?_ (fK (.pointer (some ⟨mb, 2, none⟩)) fW (hR_ fW) (by rw [hT]; exact rfl) (hP_ 11 _ fy fW rfl hJ))
      clear fK hE hF hJ hN
      go_simp
    refine stepsAll_cons (k := 12) ?_ ?_
    · intro fa fx fW fy hF hN hJ hE K fK
      have hJ : G (fy 1) (fy 8) (fy 16) fW := hJ
      have q11 : fx 11 = .pointer (some ⟨mb, 2, none⟩) := by have q := (hE ⟨11, .data⟩ (by simp) rfl).2; rw [hT] at q; exact q
      have ev34 : fa.tmps[34]?.getD undef = .pointer (some ⟨mb, 2, none⟩) := (hF.ev 11 34 (by kernel_rfl)).trans q11
      have hJ1 := hJ
      rw [hG] at hJ1
      have k0 := (hbx.keep hJ1.2.2.1 hbS).cell
      clear hJ1
      refine wpOp_val rfl (wanted_none rfl) ?_ (fK (.slice A2 n cap2) fW (hR_ fW) (by rw [hT]; exact rfl) (hP_ 12 _ fy fW rfl hJ))
      clear fK hE hF hJ hN
      go_simp
    refine stepsAll_cons (k := 13) ?_ ?_
    · intro fa fx fW fy hF hN hJ hE K fK
      have hJ : G (fy 1) (fy 8) (fy 16) fW := hJ
      have ev1 : fa.tmps[1]?.getD undef = .int .i64 i := hF.eo 1 (by kernel_rfl)
      refine wpOp_val rfl (wanted_none rfl) ?_ (fK (.int .i64 i) fW (hR_ fW) (by rw [hT]; exact rfl) (hP_ 13 _ fy fW rfl hJ))
      clear fK hE hF hJ hN
      go_simp
    refine stepsAll_cons (k := 14) ?_ ?_
    · intro fa fx fW fy hF hN hJ hE K fK
      have hJ : G (fy 1) (fy 8) (fy 16) fW := hJ
      have q13 : fx 13 = .int .i64 i := by have q := (hE ⟨13, .data⟩ (by simp) rfl).2; rw [hT] at q; exact q
      have ev36 : fa.tmps[36]?.getD undef = .int .i64 i := (hF.ev 13 36 (by kernel_rfl)).trans q13
      refine wpOp_val rfl (wanted_none rfl) ?_ (fK (.int .i64 ((i : Int) + 1)) fW (hR_ fW) (by rw [hT]; exact rfl) (hP_ 14 _ fy fW rfl hJ))
      clear fK hE hF hJ hN
      go_simp
      exact IntWalk.i64_in _ (by omega)
    refine stepsAll_cons (k := 15) ?_ ?_
    · intro fa fx fW fy hF hN hJ hE K fK
      have hJ : G (fy 1) (fy 8) (fy 16) fW := hJ
      have q12 : fx 12 = .slice A2 n cap2 := by have q := (hE ⟨12, .data⟩ (by simp) rfl).2; rw [hT] at q; exact q
      have q14 : fx 14 = .int .i64 ((i : Int) + 1) := by have q := (hE ⟨14, .data⟩ (by simp) rfl).2; rw [hT] at q; exact q
      have ev35 : fa.tmps[35]?.getD undef = .slice A2 n cap2 := (hF.ev 12 35 (by kernel_rfl)).trans q12
      have ev37 : fa.tmps[37]?.getD undef = .int .i64 ((i : Int) + 1) := (hF.ev 14 37 (by kernel_rfl)).trans q14
      refine wpOp_val rfl (wanted_none rfl) ?_ (fK (.slice A17 (n - (i + 1)) (cap2 - (i + 1))) fW (hR_ fW) (by rw [hT]; exact rfl) (hP_ 15 _ fy fW rfl hJ))
      clear fK hE hF hJ hN
      rw [HA17.out]
      rcases A2 with _ | ad0
      · obtain ⟨e1, e2, _⟩ := HR5.out.nil_n
        exfalso
        omega
      · go_simp
        rw [if_pos (by omega)]
        by_cases hcc : cap2 = i + 1 <;> simp [hcc]
    refine stepsAll_cons (k := 16) ?_ ?_
    · intro fa fx fW fy hF hN hJ hE K fK
      have hJ : G (fy 1) (fy 8) (fy 16) fW := hJ
      have q8 : (FactS.any : FactS S_).p (fx 8) fW := by have q := (hE ⟨8, .data⟩ (by simp) rfl).2; rw [hT] at q; exact q
      have y8 : fy 8 = some (fx 8) := (hE ⟨8, .data⟩ (by simp) rfl).1
      have q15 : fx 15 = .slice A17 (n - (i + 1)) (cap2 - (i + 1)) := by have q := (hE ⟨15, .data⟩ (by simp) rfl).2; rw [hT] at q; exact q
      have ev31 : fa.tmps[31]?.getD undef = fx 8 := hF.ev 8 31 (by kernel_rfl)
      have ev38 : fa.tmps[38]?.getD undef = .slice A17 (n - (i + 1)) (cap2 - (i + 1)) := (hF.ev 15 38 (by kernel_rfl)).trans q15
      rw [hG, hN, y8] at hJ
      obtain ⟨⟨i1, i2⟩, j1, j2, j3⟩ := hJ
      have ho := j1.ha _ rfl rfl
      have hrA := j2.rds hr17.out hAS17
      refine wpOp_list rfl (apn (w0 := fW) B rfl _ _ 22 3 _ 1 8 (by rfl) Try.underlying22 info_hint rfl (by decide) (by decide) (fx 8) i (nums .i64 (keys.take i)) A17 (n - (i + 1)) (cap2 - (i + 1)) (nums .i64 (keys.drop (i + 1))) (by clear fK hE hF hN i1 i2 j1 j2 j3; go_simp) (by clear fK hE hF hN i1 i2 j1 j2 j3; go_simp) hrA (nums_one _ _) ho (Below.refl _ _) j1.hB (by omega) ?_)
      intro v1 w1 p1 p2 p3 p4
      have hch : Chg S0 fW w1 := Chg.of_grown p3 (fun k e => by rw [hS0]; exact own_base ho k e)
      refine fK _ _ (by rw [hS_]; exact hch) (by rw [hT]; exact trivial) ?_
      show G (fy 1) (fy 8) (some v1) w1
      rw [hG, y8]
      exact ⟨⟨i1, (fun _ => rfl)⟩, j1.d_ hch.size p1, j2.trans hch, Nat.le_trans j3 hch.size⟩
    refine stepsAll_cons (k := 17) ?_ ?_
    · intro fa fx fW fy hF hN hJ hE K fK
      have hJ : G (fy 1) (fy 8) (fy 16) fW := hJ
      have q0 : fx 0 = .pointer (some ⟨mb, 0, none⟩) := by have q := (hE ⟨0, .data⟩ (by simp) rfl).2; rw [hT] at q; exact q
      have ev23 : fa.tmps[23]?.getD undef = .pointer (some ⟨mb, 0, none⟩) := (hF.ev 0 23 (by kernel_rfl)).trans q0
      refine wpOp_val rfl (wanted_none rfl) ?_ (fK (.pointer (some ⟨mb, 0, none⟩)) fW (hR_ fW) (by rw [hT]; exact rfl) (hP_ 17 _ fy fW rfl hJ))
      clear fK hE hF hJ hN
      go_simp
    refine stepsAll_cons (k := 18) ?_ ?_
    · intro fa fx fW fy hF hN hJ hE K fK
      have hJ : G (fy 1) (fy 8) (fy 16) fW := hJ
      have q17 : fx 17 = .pointer (some ⟨mb, 0, none⟩) := by have q := (hE ⟨17, .data⟩ (by simp) rfl).2; rw [hT] at q; exact q
      have ev40 : fa.tmps[40]?.getD undef = .pointer (some ⟨mb, 0, none⟩) := (hF.ev 17 40 (by kernel_rfl)).trans q17
      refine wpOp_val rfl (wanted_none rfl) ?_ (fK (.pointer (some ⟨mb, 2, none⟩)) fW (hR_ fW) (by rw [hT]; exact rfl) (hP_ 18 _ fy fW rfl hJ))
      clear fK hE hF hJ hN
      go_simp
    exact stepsAll_nil
  intro fa fx fW fy hF hJ0 hx
  have y1 : fy 1 = some (fx 1) := (hx 1 (by decide)).1
  have y8 : fy 8 = some (fx 8) := (hx 8 (by decide)).1
  have y16 : fy 16 = some (fx 16) := (hx 16 (by decide)).1
  have hJ : G (fy 1) (fy 8) (fy 16) fW := hJ0
  clear hJ0
  rw [y1, y8, y16] at hJ
  have q16 : (FactS.any : FactS S_).p (fx 16) fW := by have q := (hx 16 (by decide)).2; rw [hT] at q; exact q
  have ev39 : fa.tmps[39]?.getD undef = fx 16 := hF.ev 16 39 (by kernel_rfl)
  have q18 : fx 18 = .pointer (some ⟨mb, 2, none⟩) := by have q := (hx 18 (by decide)).2; rw [hT] at q; exact q
  have ev41 : fa.tmps[41]?.getD undef = .pointer (some ⟨mb, 2, none⟩) := (hF.ev 18 41 (by kernel_rfl)).trans q18
  rw [hG] at hJ
  obtain ⟨_, jd, jc, jb⟩ := hJ
  have ho := jd.hd _ rfl
  have hbz := hbx.keep jc hbS
  have c0 := hbz.cell
  have f0 := hbz.free
  obtain ⟨Ae, ce, hse⟩ := own_slice ho
  refine wpOp_fin rfl (wanted_none rfl) rfl (W' := fW.setCell ⟨mb, 2, none⟩ (fx 16)) ?_ ?_
  · clear hF hx
    rw [hse] at ev39 ⊢
    go_simp
  refine tail_end ?_
  rw [hF.eq]
  clear hF hx hT T hP_ hR_ y1 y8 y16
  simp only [putAll, Act.put, List.setIfInBounds_toArray, List.set_cons_zero, List.set_cons_succ, ]
  have hbel : Below W5.heap.size W5 fW := jc.toBelow (Below.refl _ _) (Nat.le_refl _) (fun k e => by rw [hS0] at e; omega)
  have ho2 : fW.ownsRow B 3 1 (fx 16) (i + (n - (i + 1))) (nums .i64 (keys.take i ++ keys.drop (i + 1))) := by rw [nums_append]; exact ho
  have HFIN := Lib.hid (rf_set2 (show (ids.take i ++ ids.drop (i + 1)).length = i + (n - (i + 1)) by simp only [List.length_append, List.length_take, List.length_drop]; rw [HNL.out]; omega) HS0.out HS1.out HS2.out HS3.out HS5.out HLB.out hbel hB ho2)
  have HC7 : Hid (Chg (fun k => k = mb) w (fW.setCell ⟨mb, 2, none⟩ (fx 16))) := (HC6.out.trans (Chg.of_below hbel)).setCell _ _ _ rfl
  have HU2 : Hid (∀ k, (fx 16).ownBlock = some k → w.heap.size ≤ k) := Lib.hid (fun k e => by have h1 := own_base ho2 k e; have h2 := HC6.out.size; omega)
  clear hbel ho ho2 jd jc jb hbz c0 f0 hse hbx hcapn hAS hAS17 hr7 hr17 HA17 hbS HR5 HRF hB hS0 hG
  go_wp2
  go_end0
  exact ⟨rfl, u1, fx 16, HFIN, HC7, Lib.hid (fun k h => h.elim (HU1.out k) (HU2.out k))⟩
end Go.Proofs.Ytopikpjagjnbhaa

/- The document's heap: find, and what is done with it. -/
namespace Go.Proofs.Ytopikpjagjnbhaa
open Go.RowKit
variable {w : World} {base mb : Nat} {most : Int} {v1 v2 : Value} {ids : List Nat} {keys : List Int}
set_option maxHeartbeats 4000000 in
theorem rffindYes (R : Rf w base mb most v1 v2 ids keys) (z : Int) (i : Nat) (hi : i < ids.length) (hz : (ids.getD i 0 : Int) = z) (hf : ∀ j, j < i → (ids.getD j 0 : Int) ≠ z) (hn : ids.length ≤ 4096) :
    Calls Try.prog 40 #[.pointer (some ⟨mb, 0, none⟩), .int .i64 z] w fun e w' => e = .returned (.int .i64 i) ∧ w = w' := by
  obtain ⟨g, c, rfl⟩ := own_at R.io (by omega)
  have HIO := Lib.hid R.io
  have k1 := R.ib.cell
  obtain ⟨n, hnl⟩ : ∃ n, ids.length = n := ⟨_, rfl⟩
  have HNL := Lib.hid hnl
  rw [hnl] at HIO hi hn k1
  have HF := Lib.hid hf
  have HZ := Lib.hid hz
  clear R hnl hf hz
  go_enter Try.func40, Try.ntmps40
  go_wp2
  clear k1
  go_loopw [12] (fun s wr => ∃ (j : Nat), j ≤ i ∧ s = .int .i64 j ∧ wr = w) (fun s _ => n - (intOf s).toNat)
  case atStart => exact ⟨0, Nat.zero_le _, rfl, rfl⟩
  case round =>
    obtain ⟨j, hji, rfl, rfl⟩ := hrel
    have hjn : j < n := by omega
    have hjn' : (j : Int) < (n : Int) := by omega
    have p1 := (rowGet HIO.out hjn).1
    rw [zs_getD _ _ (by rw [HNL.out]; exact hjn)] at p1
    by_cases e : j = i
    · subst e
      rw [HZ.out] at p1
      go_wp2
      go_ret
      exact ⟨rfl, rfl⟩
    · have hne := HF.out j (by omega)
      generalize (ids.getD j 0 : Int) = xj at p1 hne
      have hne' : (xj == z) = false := by simpa using hne
      go_wp2
      go_roundw
      case rel => exact ⟨j + 1, by omega, by go_num, trivial⟩
      case measure => simp only [intOf]; omega
set_option maxHeartbeats 4000000 in
theorem rffindNo (R : Rf w base mb most v1 v2 ids keys) (z : Int) (hf : ∀ j, j < ids.length → (ids.getD j 0 : Int) ≠ z) (hn : ids.length ≤ 4096) :
    Calls Try.prog 40 #[.pointer (some ⟨mb, 0, none⟩), .int .i64 z] w fun e w' => e = .returned (.int .i64 (-1)) ∧ w = w' := by
  obtain ⟨n, hnl⟩ : ∃ n, ids.length = n := ⟨_, rfl⟩
  have HNL := Lib.hid hnl
  have hio := R.io
  rw [hnl] at hio hn
  obtain ⟨A, c, rfl⟩ := own_slice hio
  have HIO := Lib.hid hio
  have k1 := R.ib.cell
  have HF := Lib.hid hf
  clear R hnl hf hio
  go_enter Try.func40, Try.ntmps40
  go_wp2
  clear k1
  go_loopw [12] (fun s wr => ∃ (j : Nat), j ≤ n ∧ s = .int .i64 j ∧ wr = w) (fun s _ => n - (intOf s).toNat)
  case atStart => exact ⟨0, Nat.zero_le _, rfl, rfl⟩
  case round =>
    obtain ⟨j, hji, rfl, rfl⟩ := hrel
    by_cases hjn : j < n
    · have hjn' : (j : Int) < (n : Int) := by omega
      obtain ⟨g, cx, hA⟩ := own_at HIO.out (by omega)
      cases hA
      have p1 := (rowGet HIO.out hjn).1
      rw [zs_getD _ _ (by rw [HNL.out]; exact hjn)] at p1
      have hne := HF.out j (by rw [HNL.out]; exact hjn)
      generalize (ids.getD j 0 : Int) = xj at p1 hne
      have hne' : (xj == z) = false := by simpa using hne
      go_wp2
      go_roundw
      case rel => exact ⟨j + 1, by omega, by go_num, trivial⟩
      case measure => simp only [intOf]; omega
    · have hjn' : ¬ (j : Int) < (n : Int) := by omega
      go_wp2
      go_ret
      exact ⟨rfl, rfl⟩
/-- Where a thing is. -/
def At (ids : List Nat) (z : Int) (i : Nat) : Prop := i < ids.length ∧ (ids.getD i 0 : Int) = z ∧ ∀ j, j < i → (ids.getD j 0 : Int) ≠ z
def Not_ (ids : List Nat) (z : Int) : Prop := ∀ j, j < ids.length → (ids.getD j 0 : Int) ≠ z
/-- What an act leaves. -/
def RA (w : World) (base mb : Nat) (most : Int) (ids : List Nat) (keys : List Int) (w' : World) : Prop := ∃ u1 u2, Rf w' base mb most u1 u2 ids keys ∧ Chg (fun k => k = mb) w w' ∧ (∀ k, u1.ownBlock = some k ∨ u2.ownBlock = some k → w.heap.size ≤ k)
set_option maxHeartbeats 1000000 in
theorem rfrange (R : Rf w base mb most v1 v2 ids keys) (z key : Int) (hz : z < 0 ∨ most ≤ z) :
    Calls Try.prog 35 #[.pointer (some ⟨mb, 0, none⟩), .int .i64 z, .int .i64 key] w fun e w' => e = .returned (.int .i64 8) ∧ w = w' := by
  have k0 := R.mo.cell
  clear R
  by_cases h0 : z < 0
  · clear hz
    go_enter Try.func35, Try.ntmps35
    go_wp2
    go_ret
    exact ⟨rfl, rfl⟩
  · have h1 : most ≤ z := by omega
    have h2 : ¬ z < most := by omega
    have h3 : 0 ≤ z := by omega
    clear hz
    go_enter Try.func35, Try.ntmps35
    go_wp2
    go_ret
    exact ⟨rfl, rfl⟩
set_option maxHeartbeats 1000000 in
theorem rfremrange (R : Rf w base mb most v1 v2 ids keys) (z : Int) (hz : z < 0 ∨ most ≤ z) :
    Calls Try.prog 37 #[.pointer (some ⟨mb, 0, none⟩), .int .i64 z] w fun e w' => e = .returned (.int .i64 8) ∧ w = w' := by
  have k0 := R.mo.cell
  clear R
  by_cases h0 : z < 0
  · clear hz
    go_enter Try.func37, Try.ntmps37
    go_wp2
    go_ret
    exact ⟨rfl, rfl⟩
  · have h1 : most ≤ z := by omega
    have h2 : ¬ z < most := by omega
    have h3 : 0 ≤ z := by omega
    clear hz
    go_enter Try.func37, Try.ntmps37
    go_wp2
    go_ret
    exact ⟨rfl, rfl⟩
set_option maxHeartbeats 1000000 in
theorem rfputState (R : Rf w base mb most v1 v2 ids keys) (z key : Int) (h0 : 0 ≤ z) (h1 : z < most) (i : Nat) (hi : At ids z i) (hn : ids.length ≤ 4096) :
    Calls Try.prog 35 #[.pointer (some ⟨mb, 0, none⟩), .int .i64 z, .int .i64 key] w fun e w' => e = .returned (.int .i64 5) ∧ w = w' := by
  have k0 := R.mo.cell
  have HF := Lib.hid (rffindYes R z i hi.1 hi.2.1 hi.2.2 hn)
  have h2 : ¬ z < 0 := by omega
  have h3 : ¬ most ≤ z := by omega
  clear R hi
  go_enter Try.func35, Try.ntmps35
  go_wp2_with (go_at_call 40; (with_reducible refine HF.out.mono ?_); rintro e w1 ⟨rfl, rfl⟩)
  go_ret
  exact ⟨rfl, rfl⟩
set_option maxHeartbeats 1000000 in
theorem rfremNone (R : Rf w base mb most v1 v2 ids keys) (z : Int) (h0 : 0 ≤ z) (h1 : z < most) (hi : Not_ ids z) (hn : ids.length ≤ 4096) :
    Calls Try.prog 37 #[.pointer (some ⟨mb, 0, none⟩), .int .i64 z] w fun e w' => e = .returned (.int .i64 4) ∧ w = w' := by
  have k0 := R.mo.cell
  have HF := Lib.hid (rffindNo R z hi hn)
  have h2 : ¬ z < 0 := by omega
  have h3 : ¬ most ≤ z := by omega
  clear R hi
  go_enter Try.func37, Try.ntmps37
  go_wp2_with (go_at_call 40; (with_reducible refine HF.out.mono ?_); rintro e w1 ⟨rfl, rfl⟩)
  go_ret
  exact ⟨rfl, rfl⟩
set_option maxHeartbeats 1000000 in
theorem rfput (R : Rf w base mb most v1 v2 ids keys) (x : Nat) (key : Int) (h1 : (x : Int) < most) (hi : Not_ ids x) (hn : ids.length ≤ 4096) :
    Calls Try.prog 35 #[.pointer (some ⟨mb, 0, none⟩), .int .i64 x, .int .i64 key] w fun e w' => e = .returned (.int .i64 0) ∧ ∃ i, i ≤ ids.length ∧ Hid (∀ j, j < i → keys.getD j 0 < key ∨ (keys.getD j 0 = key ∧ ids.getD j 0 < x)) ∧ Hid (i < ids.length → ¬ (keys.getD i 0 < key ∨ (keys.getD i 0 = key ∧ ids.getD i 0 < x))) ∧ Hid (RA w base mb most (ids.take i ++ [x] ++ ids.drop i) (keys.take i ++ [key] ++ keys.drop i) w') := by
  have k0 := R.mo.cell
  have HF := Lib.hid (rffindNo R x hi hn)
  have HI := Lib.hid (rfin R x (x : Int) key rfl hn)
  have h3 : ¬ most ≤ (x : Int) := by omega
  have h4 : ¬ (x : Int) < 0 := by omega
  clear R hi
  go_enter Try.func35, Try.ntmps35
  go_wp2_with (first
    | (go_at_call 40; (with_reducible refine HF.out.mono ?_); rintro e w1 ⟨rfl, rfl⟩)
    | (go_at_call 51; (with_reducible refine HI.out.mono ?_); rintro e w1 ⟨rfl, i, u1, u2, q1, q2, q3, q4, q5, q6⟩))
  go_ret
  exact ⟨rfl, i, q1, q2, q3, Lib.hid ⟨u1, u2, q4.out, q5.out, q6.out⟩⟩
set_option maxHeartbeats 1000000 in
theorem rfrem (R : Rf w base mb most v1 v2 ids keys) (z : Int) (h0 : 0 ≤ z) (h1 : z < most) (i : Nat) (hi : At ids z i) (hn : ids.length ≤ 4096) :
    Calls Try.prog 37 #[.pointer (some ⟨mb, 0, none⟩), .int .i64 z] w fun e w' => e = .returned (.int .i64 0) ∧ Hid (RA w base mb most (ids.take i ++ ids.drop (i + 1)) (keys.take i ++ keys.drop (i + 1)) w') := by
  have k0 := R.mo.cell
  have HF := Lib.hid (rffindYes R z i hi.1 hi.2.1 hi.2.2 hn)
  have HI := Lib.hid (rfout R i (i : Int) rfl hi.1 hn)
  have h3 : ¬ most ≤ z := by omega
  have h4 : ¬ z < 0 := by omega
  have h5 : ¬ (i : Int) < 0 := by omega
  clear R hi
  go_enter Try.func37, Try.ntmps37
  go_wp2_with (first
    | (go_at_call 40; (with_reducible refine HF.out.mono ?_); rintro e w1 ⟨rfl, rfl⟩)
    | (go_at_call 52; (with_reducible refine HI.out.mono ?_); rintro e w1 ⟨rfl, u1, u2, q4, q5, q6⟩))
  go_ret
  exact ⟨rfl, Lib.hid ⟨u1, u2, q4.out, q5.out, q6.out⟩⟩
set_option maxHeartbeats 1000000 in
theorem rfchgNo (z key r : Int) (hr : r ≠ 0) (H : Calls Try.prog 37 #[.pointer (some ⟨mb, 0, none⟩), .int .i64 z] w fun e w' => e = .returned (.int .i64 r) ∧ w = w') :
    Calls Try.prog 36 #[.pointer (some ⟨mb, 0, none⟩), .int .i64 z, .int .i64 key] w fun e w' => e = .returned (.int .i64 r) ∧ w = w' := by
  have HH := Lib.hid H
  have hr' : (r != 0) = true := by simpa using hr
  clear H hr
  go_enter Try.func36, Try.ntmps36
  go_wp2_with (go_at_call 37; (with_reducible refine HH.out.mono ?_); rintro e w1 ⟨rfl, rfl⟩)
  go_ret
  exact ⟨rfl, rfl⟩
theorem RA.then_ {w1 w2 : World} {ids2 : List Nat} {keys2 : List Int} (h : RA w1 base mb most ids2 keys2 w2) (hc : Chg (fun k => k = mb) w w1) : RA w base mb most ids2 keys2 w2 := by
  obtain ⟨u1, u2, h1, h2, h3⟩ := h
  exact ⟨u1, u2, h1, hc.trans h2, fun k e => Nat.le_trans hc.size (h3 k e)⟩
set_option maxHeartbeats 1000000 in
theorem rfchg (R : Rf w base mb most v1 v2 ids keys) (x : Nat) (key : Int) (h1 : (x : Int) < most) (i : Nat) (hi : At ids x i) (hn : ids.length ≤ 4096) :
    Calls Try.prog 36 #[.pointer (some ⟨mb, 0, none⟩), .int .i64 x, .int .i64 key] w fun e w' => e = .returned (.int .i64 0) ∧ ∃ ids1 keys1 i1, Hid (ids1 = ids.take i ++ ids.drop (i + 1)) ∧ Hid (keys1 = keys.take i ++ keys.drop (i + 1)) ∧ i1 ≤ ids1.length ∧ Hid (∀ j, j < i1 → keys1.getD j 0 < key ∨ (keys1.getD j 0 = key ∧ ids1.getD j 0 < x)) ∧ Hid (i1 < ids1.length → ¬ (keys1.getD i1 0 < key ∨ (keys1.getD i1 0 = key ∧ ids1.getD i1 0 < x))) ∧ Hid (RA w base mb most (ids1.take i1 ++ [x] ++ ids1.drop i1) (keys1.take i1 ++ [key] ++ keys1.drop i1) w') := by
  have HH := Lib.hid (rfrem R x (by omega) h1 i hi hn)
  obtain ⟨ids1, e1⟩ : ∃ y, y = ids.take i ++ ids.drop (i + 1) := ⟨_, rfl⟩
  obtain ⟨keys1, e2⟩ : ∃ y, y = keys.take i ++ keys.drop (i + 1) := ⟨_, rfl⟩
  rw [← e1, ← e2] at HH
  have hl : ids1.length ≤ 4096 := by
    rw [e1]
    have := hi.1
    simp only [List.length_append, List.length_take, List.length_drop]
    omega
  have HE1 := Lib.hid e1
  have HE2 := Lib.hid e2
  clear R hi e1 e2
  go_enter Try.func36, Try.ntmps36
  go_wp2_with (first
    | (go_at_call 37; (with_reducible refine HH.out.mono ?_); rintro e w1 ⟨rfl, hra⟩; obtain ⟨u1, u2, q1, q2, q3⟩ := hra.out; have HI := Lib.hid (rfin q1 x (x : Int) key rfl hl); have HQ2 := Lib.hid q2; clear q1 q2 q3 hra)
    | (go_at_call 51; (with_reducible refine HI.out.mono ?_); rintro e w2 ⟨rfl, i1, u1, u2, q1, q2, q3, q4, q5, q6⟩))
  go_ret
  exact ⟨rfl, ids1, keys1, i1, HE1, HE2, q1, q2, q3, Lib.hid (RA.then_ ⟨_, _, q4.out, q5.out, q6.out⟩ HQ2.out)⟩
set_option maxHeartbeats 1000000 in
theorem rfkeyNo (R : Rf w base mb most v1 v2 ids keys) (z : Int) (hi : Not_ ids z) (hn : ids.length ≤ 4096) :
    Calls Try.prog 23 #[.pointer (some ⟨mb, 0, none⟩), .int .i64 z] w fun e w' => e = .returned (.tuple #[.int .i64 0, .bool false]) ∧ w = w' := by
  have HF := Lib.hid (rffindNo R z hi hn)
  clear R hi
  go_enter Try.func23, Try.ntmps23
  go_wp2_with (go_at_call 40; (with_reducible refine HF.out.mono ?_); rintro e w1 ⟨rfl, rfl⟩)
  go_ret2
  exact ⟨rfl, rfl⟩
set_option maxHeartbeats 1000000 in
theorem rfkeyYes (R : Rf w base mb most v1 v2 ids keys) (z : Int) (i : Nat) (hi : At ids z i) (hn : ids.length ≤ 4096) :
    Calls Try.prog 23 #[.pointer (some ⟨mb, 0, none⟩), .int .i64 z] w fun e w' => e = .returned (.tuple #[.int .i64 (keys.getD i 0), .bool true]) ∧ w = w' := by
  have HF := Lib.hid (rffindYes R z i hi.1 hi.2.1 hi.2.2 hn)
  have hil := hi.1
  have h5 : ¬ (i : Int) < 0 := by omega
  obtain ⟨g, c, rfl⟩ := own_at R.ko (by omega)
  have p1 := (rowGet R.ko hil).1
  have k2 := R.kb.cell
  have hil' : (i : Int) < (ids.length : Int) := by omega
  generalize ids.length = n at hil hil' k2
  generalize keys.getD i 0 = ky at p1 ⊢
  clear R hi hn
  go_enter Try.func23, Try.ntmps23
  go_wp2_with (go_at_call 40; (with_reducible refine HF.out.mono ?_); rintro e w1 ⟨rfl, rfl⟩)
  go_ret2
  exact ⟨rfl, rfl⟩
end Go.Proofs.Ytopikpjagjnbhaa

/- The document's heap: New, Least, Pop. -/
namespace Go.Proofs.Ytopikpjagjnbhaa
open Go.RowKit
variable {w : World} {base mb : Nat} {most : Int} {v1 v2 : Value} {ids : List Nat} {keys : List Int}
set_option maxHeartbeats 1000000 in
theorem rfnewNo (z : Int) (w : World) (hz : z < 1 ∨ 4096 < z) : Calls Try.prog 19 #[.int .i64 z] w fun e w' => e = .returned (.pointer none) ∧ w = w' := by
  by_cases h1 : z < 1
  · go_enter Try.func19, Try.ntmps19
    go_wp2
    go_ret
    exact ⟨rfl, rfl⟩
  · have h2 : 4096 < z := by omega
    go_enter Try.func19, Try.ntmps19
    go_wp2
    go_ret
    exact ⟨rfl, rfl⟩
set_option maxHeartbeats 4000000 in
theorem rfnew (z : Int) (w : World) (h1 : 1 ≤ z) (h2 : z ≤ 4096) : Calls Try.prog 19 #[.int .i64 z] w fun e w' => e = .returned (.pointer (some ⟨w.heap.size, 0, none⟩)) ∧ Hid (Rf w' w.heap.size w.heap.size z (.slice none 0 0) (.slice none 0 0) [] []) ∧ Hid (Below w.heap.size w w') := by
  have hx1 : ¬ (z < 1) := by omega
  have hx2 : ¬ (4096 < z) := by omega
  go_enter Try.func19, Try.ntmps19
  go_wp2
  go_ret
  refine ⟨rfl, Lib.hid ⟨⟨?_, ?_⟩, ⟨?_, ?_⟩, ⟨?_, ?_⟩, World.ownsRow_nil _ _ _ _, World.ownsRow_nil _ _ _ _, (fun e => by cases e), (fun e => by cases e), Nat.le_refl _⟩, Lib.hid (below_al (Below.refl _ _) _)⟩
  all_goals go_simp
set_option maxHeartbeats 4000000 in
theorem rfleastNo (R : Rf w base mb most v1 v2 [] []) :
    Calls Try.prog 22 #[.pointer (some ⟨mb, 0, none⟩)] w fun e w' => e = .returned (.tuple #[.int .i64 0, .int .i64 0, .bool false]) ∧ w = w' := by
  obtain ⟨A, c, rfl⟩ := own_slice R.io
  have k1 := R.ib.cell
  simp only [List.length_nil] at k1
  clear R
  go_enter Try.func22, Try.ntmps22
  go_wp2
  go_ret3
  exact ⟨rfl, rfl⟩
set_option maxRecDepth 100000 in
set_option maxHeartbeats 4000000 in
theorem rfleast (R : Rf w base mb most v1 v2 ids keys) (h0 : 0 < ids.length) :
    Calls Try.prog 22 #[.pointer (some ⟨mb, 0, none⟩)] w fun e w' => e = .returned (.tuple #[.int .i64 (ids.getD 0 0 : Nat), .int .i64 (keys.getD 0 0), .bool true]) ∧ Below w.heap.size w w' := by
  obtain ⟨g, c, rfl⟩ := own_at R.io h0
  obtain ⟨g2, c2, rfl⟩ := own_at R.ko h0
  have p1 := (rowGet R.io h0).1
  have p2 := (rowGet R.ko h0).1
  rw [zs_getD _ _ h0] at p1
  have k1 := R.ib.cell
  have k2 := R.kb.cell
  obtain ⟨n, hnl⟩ : ∃ n, ids.length = n := ⟨_, rfl⟩
  rw [hnl] at h0 k1 k2
  have hn0 : ¬ ((n : Int) = 0) := by omega
  have hn1 : (0 : Int) < (n : Int) := by omega
  have hn2 : ¬ (n = 0) := by omega
  generalize ids.getD 0 0 = x0 at p1 ⊢
  generalize keys.getD 0 0 = y0 at p2 ⊢
  clear R hnl
  go_enter Try.func22, Try.ntmps22
  go_wp2_with fail
  go_big_region
  go_wp2
  go_ret3
  exact ⟨rfl, below_dr (Below.refl _ _) 1⟩
set_option maxHeartbeats 4000000 in
theorem rfpopNo (R : Rf w base mb most v1 v2 [] []) :
    Calls Try.prog 38 #[.pointer (some ⟨mb, 0, none⟩)] w fun e w' => e = .returned (.tuple #[.int .i64 0, .int .i64 0, .bool false]) ∧ w = w' := by
  have HF := Lib.hid (rfleastNo R)
  clear R
  go_enter Try.func38, Try.ntmps38
  go_wp2_with (go_at_call 22; (with_reducible refine HF.out.mono ?_); rintro e w1 ⟨rfl, rfl⟩)
  go_ret3
  exact ⟨rfl, rfl⟩
set_option maxHeartbeats 4000000 in
theorem rfpop (R : Rf w base mb most v1 v2 ids keys) (h0 : 0 < ids.length) (hn : ids.length ≤ 4096) :
    Calls Try.prog 38 #[.pointer (some ⟨mb, 0, none⟩)] w fun e w' => e = .returned (.tuple #[.int .i64 (ids.getD 0 0 : Nat), .int .i64 (keys.getD 0 0), .bool true]) ∧ Hid (RA w base mb most (ids.take 0 ++ ids.drop (0 + 1)) (keys.take 0 ++ keys.drop (0 + 1)) w') := by
  have HF := Lib.hid (rfleast R h0)
  have HO := Lib.hid (fun W (hb : Below w.heap.size w W) => rfout (R.below hb) 0 (0 : Int) rfl h0 hn)
  generalize ids.getD 0 0 = x0 at HF ⊢
  generalize keys.getD 0 0 = y0 at HF ⊢
  clear R
  go_enter Try.func38, Try.ntmps38
  go_wp2_with (first
    | (go_at_call 22; (with_reducible refine HF.out.mono ?_); rintro e w1 ⟨rfl, hb1⟩; have HB1 := Lib.hid hb1; clear hb1)
    | (go_at_call 52; (with_reducible refine (HO.out _ HB1.out).mono ?_); rintro e w2 ⟨rfl, u1, u2, q1, q2, q3⟩))
  go_ret3
  exact ⟨rfl, Lib.hid (RA.then_ ⟨u1, u2, q1.out, q2.out, q3.out⟩ (Chg.of_below HB1.out))⟩
end Go.Proofs.Ytopikpjagjnbhaa
