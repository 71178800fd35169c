/- The law HeapLowers, walked: lowered keys leave the order as it was. -/
import Derived.Test.YtopikpjagjnbhaaHeapTwo
import Derived.Test.YtopikpjagjnbhaaHeapSorts
import Derived.Test.YtopikpjagjnbhaaInts03
namespace Go.Proofs.Ytopikpjagjnbhaa
open Go.RowKit
def I32 (n : Int) : Prop := -2147483648 ≤ n ∧ n < 2147483648
theorem i32_of_wf {n : Int} (h : (Lit.int .i32 n).wf = true) : I32 n := by
  have hmin : IntKind.i32.min = -2147483648 := rfl
  have hmax : IntKind.i32.max = 2147483647 := rfl
  simp only [Lit.wf, Bool.and_eq_true, decide_eq_true_eq] at h
  unfold I32
  omega
theorem lowers_lives (A : Option Addr) (n c : Nat) (z : Int) (w : World) (hn : 100 < n) : Calls Try.prog 6 #[.slice A n c, .int .i32 z] w fun e w' => e = .returned (.bool true) ∧ Below w.heap.size w w' := by
  have HL := Lib.hid (lives06 w)
  have hn' : (100 : Int) < (n : Int) := by omega
  go_enter Try.func6, Try.ntmps6
  go_wp2_with (go_at_call 8; (with_reducible refine HL.out.mono ?_); rintro e w1 ⟨rfl, hb⟩)
  go_ret
  exact ⟨rfl, hb⟩
theorem lowers_same {n : Nat} {h : HV} (s : Sd n h) (z : Int) : byKeys (lowerV h z).ks (lowerV h z).ids = byKeys h.ks h.ids := by
  refine (byKeys_same (List.Perm.refl _) (fun x y hx hy hl => ?_)).symm
  unfold leK at *
  rw [lowerV_key s z hx, lowerV_key s z hy]
  omega
set_option maxRecDepth 100000 in
set_option maxHeartbeats 8000000 in
theorem lowers_walk (A : Option Addr) (n c : Nat) (keys : List Int) (z : Int) (w : World) (hr : Rds w 1 A n c (nums .i32 keys)) (hn : n ≤ 100) (hk : ∀ x ∈ keys, I32 x) (hz : I32 z) : Calls Try.prog 6 #[.slice A n c, .int .i32 z] w fun e w' => e = .returned (.bool true) ∧ Below w.heap.size w w' := by
  have hkl : keys.length = n := by have := hr.len; rw [nums_length] at this; omega
  have hn' : ¬ ((100 : Int) < (n : Int)) := by omega
  have HN := Lib.hid (hnew 100 100 rfl w (by decide) (by decide))
  have HL := Lib.hid lives06
  have HP := Lib.hid (fun b W h (H : Hx w W b 100 h) (i : Nat) (hi : i < 100) (hh : ¬ hasV h i) => xput H (by decide) i i (keys.getD i 0) rfl hi hh)
  have HR := Lib.hid hr
  have HK := Lib.hid (show ∀ i, i < n → I32 (keys.getD i 0) from fun i hi => by
    have h1 : i < keys.length := by omega
    rw [show keys.getD i 0 = keys[i] by simp [List.getD_eq_getElem?_getD, h1]]
    exact hk _ (List.getElem_mem _))
  have HZ := Lib.hid hz
  have wz : IntKind.i64.wrap z = z := by unfold I32 at hz; rw [IntKind.wrap_i64] <;> omega
  clear hk hz
  go_enter Try.func6, Try.ntmps6
  go_wp2_with (go_at_call 9; (with_reducible refine HN.out.mono ?_); rintro e w1 ⟨⟨v, rfl, hv⟩, hb1⟩; obtain ⟨b, rfl, hX0⟩ := Hx.made hv hb1)
  go_loopw [22] (fun i wr => ∃ (k : Nat) (h : HV), k ≤ n ∧ i = .int .i64 k ∧ Hid (Put1 keys k h) ∧ Hid (Hx w wr b 100 h)) (fun i _ => n - (intOf i).toNat)
  case atStart => exact ⟨0, _, Nat.zero_le _, rfl, (show Hid _ from Put1.zero keys 100), (show Hid _ from hX0)⟩
  case round =>
    obtain ⟨k, h, hkn0, rfl, hp, hX⟩ := hrel
    by_cases hkn : k < n
    · have hkn' : (k : Int) < (n : Int) := by omega
      obtain ⟨ad, rfl⟩ := hr.some_ (by omega)
      have hcell := (HR.out.below hX.out.bl).cell ad rfl k _ (nums_get .i32 keys k (by omega))
      rw [show keys[k] = keys.getD k 0 by simp [List.getD_eq_getElem?_getD, hkl, hkn]] at hcell
      have st := hp.out.step hX.out.sd (show k < 100 by omega)
      have HPk := Lib.hid (HP.out b _ h hX.out k (by omega) st.1)
      have ST := Lib.hid st.2
      have wk : IntKind.i64.wrap (keys.getD k 0) = keys.getD k 0 := by have := HK.out k hkn; unfold I32 at this; rw [IntKind.wrap_i64] <;> omega
      clear st
      generalize hky : keys.getD k 0 = key at hcell HPk ST wk
      go_wp2_with (go_at_call 10; (with_reducible refine HPk.out.mono ?_); rintro e w2 ⟨rfl, hX1⟩)
      go_roundw
      case rel => exact ⟨k + 1, _, by omega, by go_num, (show Hid _ from ST.out), (show Hid _ from hX1)⟩
      case measure => simp only [intOf]; omega
    · obtain rfl : k = n := by omega
      clear HP HN
      obtain ⟨W1, rfl⟩ : ∃ x, x = wr := ⟨_, rfl⟩
      obtain ⟨S, hZ⟩ := hX.out.hz
      have HS := Lib.hid hZ
      have hsd := hX.out.sd
      have hI : ∀ x ∈ h.ids, I32 (h.ks.getD x 0) := fun x hx => by
        have h1 := (hp.out.has x).1 (has_mem.2 hx)
        rw [hp.out.ks x h1]
        exact HK.out x h1
      have hKR : KR h := fun x hx => by have := hI x hx; unfold I32 at this; unfold I64; omega
      have hZ64 : I64 z := by have := HZ.out; unfold I32 at this; unfold I64; omega
      have hfit : ∀ x ∈ h.ids, I64 (h.ks.getD x 0 - z) := fun x hx => by have := hI x hx; have := HZ.out; unfold I32 at *; unfold I64; omega
      have HSD := Lib.hid hsd
      have HLOW := Lib.hid (fun W (H : Hz w W b 100 h S) => zlower H (by decide) (by decide) hKR z hZ64 hfit)
      clear hsd hI hKR hZ64 hfit hZ hX
      go_wp2_with (go_at_call 17; fail)
      refine (zall HS.out (by decide) (by decide)).mono ?_
      rintro e w2 ⟨v0, rfl, R0, B0⟩
      obtain ⟨A0, c0, rfl, hr0⟩ := ids_rds R0.out
      have HS2 := Lib.hid (HS.out.below B0.out)
      have HR0 := Lib.hid hr0
      clear hr0
      go_wp2_with (go_at_call 24; fail)
      refine (HLOW.out w2 HS2.out).mono ?_
      rintro e w3 ⟨rfl, H3⟩
      obtain ⟨S3, hS3, hst⟩ := H3.out
      have HS3 := Lib.hid hS3
      have HR3 := Lib.hid (hst.1.own R0.out (fun j e e2 => by
        have t1 := (R0.out.lt j e).1
        have t2 := HS.out.lt e2
        omega))
      clear hS3 hst H3
      go_wp2_with (go_at_call 17; fail)
      refine (zall HS3.out (by decide) (by decide)).mono ?_
      rintro e w4 ⟨v1, rfl, R1, B1⟩
      obtain ⟨A1, c1, rfl, hr1⟩ := ids_rds R1.out
      rw [lowers_same HSD.out z] at hr1
      obtain ⟨_, hr2⟩ := own_rds' (own_below HR3.out B1.out)
      have hcmp := Lib.hid (ints03 _ _ _ _ _ _ _ _ w4 hr1 hr2)
      rw [show decide (zs (byKeys h.ks h.ids) = zs (byKeys h.ks h.ids)) = true from decide_eq_true rfl] at hcmp
      have HS4 := Lib.hid (HS3.out.below B1.out)
      have HR4 := Lib.hid (own_below HR3.out B1.out)
      clear hr1 hr2
      rw [show (lowerV h z).ids.length = h.ids.length from rfl] at *
      go_wp2_with (go_at_call 16; fail)
      refine hcmp.out.mono ?_
      rintro e w5 ⟨rfl, hb5⟩
      have HS5 := Lib.hid (HS4.out.below hb5)
      have HR5 := Lib.hid (own_below HR4.out hb5)
      clear HS2 HS3 HS4 HR0 HR3 HR4 hcmp HLOW
      go_wp2
      go_loopw [49] (fun i wr => ∃ j : Nat, j ≤ k ∧ i = .int .i64 j ∧ w5 = wr) (fun i _ => k - (intOf i).toNat)
      case atStart => exact ⟨0, Nat.zero_le _, rfl, rfl⟩
      case round =>
        obtain ⟨j, hjn0, rfl, rfl⟩ := hrel
        by_cases hjn : j < k
        · have hjn' : (j : Int) < (k : Int) := by omega
          obtain ⟨ad, rfl⟩ := hr.some_ (by omega)
          have hcell := (HR.out.below HS5.out.hx.bl).cell ad rfl j _ (nums_get .i32 keys j (by omega))
          rw [show keys[j] = keys.getD j 0 by simp [List.getD_eq_getElem?_getD, hkl, hjn]] at hcell
          have hh : hasV h j := (hp.out.has j).2 hjn
          have hK := Lib.hid (zkey HS5.out j (j : Int) rfl hh)
          rw [lowerV_key HSD.out z (has_mem.1 hh), hp.out.ks j hjn] at hK
          have hI := HK.out j hjn
          generalize hky : keys.getD j 0 = key at hcell hK hI
          have wk : IntKind.i64.wrap key = key := by unfold I32 at hI; rw [IntKind.wrap_i64] <;> omega
          have wd : IntKind.i64.wrap (key - z) = key - z := by have := HZ.out; unfold I32 at *; rw [IntKind.wrap_i64] <;> omega
          clear hky hI hh
          go_wp2_with (go_at_call 15; (with_reducible refine hK.out.mono ?_); rintro e w6 ⟨rfl, rfl⟩)
          go_roundw
          case rel => exact ⟨j + 1, by omega, by go_num, by first | trivial | rfl⟩
          case measure => simp only [intOf]; omega
        · obtain rfl : k = j := by omega
          go_wp2_with (go_at_call 25; fail)
          refine (zcopy HS5.out (by decide) (by decide)).mono ?_
          rintro e w6 ⟨b6, rfl, HC6, HB6⟩
          obtain ⟨S6, hC6⟩ := HC6.out
          have HD6 := Lib.hid hC6
          clear hC6 HC6
          go_wp2_with (go_at_call 18; fail)
          refine (zsound HD6.out (by decide) (by decide)).mono ?_
          rintro e w7 ⟨rfl, HB7⟩
          have HS7 := Lib.hid ((HS5.out.below HB6.out).below HB7.out)
          have HR7 := Lib.hid (own_below (own_below HR5.out HB6.out) HB7.out)
          clear HS5 HR5 HD6
          go_wp2_with (go_at_call 25; fail)
          refine (zcopy HS7.out (by decide) (by decide)).mono ?_
          rintro e w8 ⟨b8, rfl, HC8, HB8⟩
          obtain ⟨S8, hC8⟩ := HC8.out
          have HD8 := Lib.hid hC8
          have HS8 := Lib.hid (HS7.out.below HB8.out)
          have HR8 := Lib.hid (own_below HR7.out HB8.out)
          clear hC8 HC8 HS7 HR7
          go_wp2_with (go_at_call 17; fail)
          refine (zall HD8.out (by decide) (by decide)).mono ?_
          rintro e w9 ⟨v9, rfl, R9, B9⟩
          obtain ⟨A9, c9, rfl, hr9⟩ := ids_rds R9.out
          rw [lowers_same HSD.out z] at hr9
          obtain ⟨_, hr2⟩ := own_rds' (own_below HR8.out B9.out)
          have hcmp := Lib.hid (ints03 _ _ _ _ _ _ _ _ w9 hr9 hr2)
          rw [show decide (zs (byKeys h.ks h.ids) = zs (byKeys h.ks h.ids)) = true from decide_eq_true rfl] at hcmp
          have HS9 := Lib.hid (HS8.out.below B9.out)
          clear hr9 hr2 HS8
          rw [show (lowerV h z).ids.length = h.ids.length from rfl] at *
          go_wp2_with (go_at_call 16; fail)
          refine hcmp.out.mono ?_
          rintro e w10 ⟨rfl, hb10⟩
          have HS10 := Lib.hid (HS9.out.below hb10)
          go_wp2_with (go_at_call 8; fail)
          refine (HL.out _).mono ?_
          rintro e w11 ⟨rfl, hb11⟩
          have HS11 := Lib.hid (HS10.out.below hb11)
          go_wp2
          go_ret
          exact ⟨rfl, HS11.out.hx.bl⟩
end Go.Proofs.Ytopikpjagjnbhaa
