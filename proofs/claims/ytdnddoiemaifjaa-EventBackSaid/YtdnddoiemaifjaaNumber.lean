/- Package code: number: a number's bytes read. -/
import Derived.Test.YtdnddoiemaifjaaOctet
namespace Go.Proofs.Ytdnddoiemaifjaa
open Go.RowKit
variable {B : Nat}
/-- What bytes say, from the i-th byte of a number on: an error, or the number and the bytes behind it. -/
def numF : Nat → Nat → Nat → List Int → Except Int (Nat × List Int)
  | 0, _, _, _ => .error 0
  | _ + 1, _, _, [] => .error 9
  | k + 1, i, acc, x :: bs =>
    if i ≠ 0 ∧ x = 0 then .error 10
    else if i = 9 ∧ 1 < x then .error 10
    else if x < 128 then .ok (acc + (x % 128).toNat * 128 ^ i, bs)
    else numF k (i + 1) (acc + (x % 128).toNat * 128 ^ i) bs
def numS (bs : List Int) : Except Int (Nat × List Int) := numF 10 0 0 bs
/-- What a getter of bytes leaves. -/
def GotN (B : Nat) (w : World) (b : Nat) (er : Int) (r : Except Int (Nat × List Int)) (e : Ending) (w' : World) : Prop :=
  match r with
  | .error x => e = thrown x ∧ Chg (fun k => k = b) w w' ∧ ∃ bs, Src B w' b bs er
  | .ok (v, rest) => e = .returned (.int .u64 v) ∧ Chg (fun k => k = b) w w' ∧ Src B w' b rest er
theorem GotN.error_ {w w' : World} {b : Nat} {er x : Int} {r : Except Int (Nat × List Int)} (hr : r = .error x) {bs : List Int} (hc : Chg (fun k => k = b) w w') (hs : Src B w' b bs er) : GotN B w b er r (thrown x) w' := by
  subst hr; exact ⟨rfl, hc, bs, hs⟩
theorem GotN.ok_ {w w' : World} {b : Nat} {er : Int} {v : Nat} {rest : List Int} {r : Except Int (Nat × List Int)} (hr : r = .ok (v, rest)) (hc : Chg (fun k => k = b) w w') (hs : Src B w' b rest er) : GotN B w b er r (.returned (.int .u64 v)) w' := by
  subst hr; exact ⟨rfl, hc, hs⟩
theorem and127u8 (x : Int) (h : 0 ≤ x ∧ x < 256) : bits BinOp.and IntKind.u8 x 127 = x % 128 := by
  have h2 : ∀ k : Fin 256, bits BinOp.and IntKind.u8 (k.val : Int) 127 = (k.val : Int) % 128 := by decide +kernel
  have := h2 ⟨x.toNat, by omega⟩
  simp only at this
  rwa [Int.toNat_of_nonneg h.1] at this
theorem shl_at (y i : Nat) (hy : y < 128) (hi : i ≤ 9) (h9 : i = 9 → y ≤ 1) : y * 128 ^ i < 18446744073709551616 := by
  have : i = 0 ∨ i = 1 ∨ i = 2 ∨ i = 3 ∨ i = 4 ∨ i = 5 ∨ i = 6 ∨ i = 7 ∨ i = 8 ∨ i = 9 := by omega
  rcases this with rfl | rfl | rfl | rfl | rfl | rfl | rfl | rfl | rfl | rfl <;> simp at * <;> omega
theorem or_at (acc y i : Nat) (hacc : acc < 128 ^ i) (hy : y < 128) (hi : i ≤ 9) (h9 : i = 9 → y ≤ 1) : bits BinOp.or IntKind.u64 (acc : Int) (IntKind.u64.wrap ((y : Int) * 2 ^ (7 * i))) = ((acc + y * 128 ^ i : Nat) : Int) := by
  have h1 := shl_at y i hy hi h9
  have h2 := shl_at 1 i (by omega) hi (by omega)
  have e : (128 : Nat) ^ i = 2 ^ (7 * i) := by rw [Nat.pow_mul]
  have e1 : ((y : Int) * 2 ^ (7 * i)) = ((y * 128 ^ i : Nat) : Int) := by rw [e]; push_cast; rfl
  rw [e1, IntKind.wrap_u64, Int.emod_eq_of_lt (by omega) (by omega), u64_or_nat acc _ (by omega) h1, Nat.or_comm, nat_join (7 * i) _ _ (by rw [e]; exact Nat.mul_mod_left _ _) (by rw [← e]; exact hacc), Nat.add_comm]
set_option maxRecDepth 100000 in
set_option maxHeartbeats 4000000 in
theorem number_walk (b : Nat) (er : Int) (bs : List Int) (w : World) (h : Src B w b bs er) (hbs : ∀ x ∈ bs, 0 ≤ x ∧ x < 256) : Calls Try.prog 58 #[.pointer (some ⟨b, 0, none⟩)] w (GotN B w b er (numS bs)) := by
  have HB := Lib.hid hbs
  clear hbs
  go_enter Try.func58, Try.ntmps58
  go_wp2
  go_loopw [3, 6] (fun nv iv wr => ∃ i acc : Nat, ∃ bs', i ≤ 9 ∧ iv = .int .i64 i ∧ nv = .int .u64 acc ∧ acc < 128 ^ i ∧ Src B wr b bs' er ∧ Chg (fun k => k = b) w wr ∧ Hid (numF (10 - i) i acc bs' = numS bs) ∧ Hid (∀ x ∈ bs', 0 ≤ x ∧ x < 256)) (fun _ iv _ => 10 - (intOf iv).toNat)
  case atStart => exact ⟨0, 0, bs, by omega, rfl, rfl, by simp, h, Chg.refl _ _, rfl, HB.out⟩
  case round =>
    obtain ⟨i, acc, bs', hi, rfl, rfl, hacc, hs, hch, HE, HR⟩ := hrel
    have hi10 : (i : Int) < 10 := by omega
    cases bs' with
    | nil =>
      have HO := Lib.hid (octet_none b er wr hs)
      have HX : Hid (numS bs = .error 9) := by
        show _ = _
        rw [← HE.out, show 10 - i = (9 - i) + 1 by omega]
        rfl
      unfold thrown faultV at HO
      go_wp2_with (go_at_call 65; (with_reducible refine HO.out.mono ?_); rintro e w2 ⟨rfl, rfl⟩)
      exact ⟨rfl, GotN.error_ HX.out hch hs⟩
    | cons x bs' =>
      have hx := HR.out x (List.mem_cons_self ..)
      have HR2 : Hid (∀ y ∈ bs', 0 ≤ y ∧ y < 256) := fun y hy => HR.out y (List.mem_cons_of_mem _ hy)
      have HO := Lib.hid (octet_some b er x bs' wr hs)
      have HF : Hid (numS bs = if i ≠ 0 ∧ x = 0 then .error 10 else if i = 9 ∧ 1 < x then .error 10 else if x < 128 then .ok (acc + (x % 128).toNat * 128 ^ i, bs') else numF (9 - i) (i + 1) (acc + (x % 128).toNat * 128 ^ i) bs') := by
        show _ = _
        rw [← HE.out, show 10 - i = (9 - i) + 1 by omega]
        rfl
      have HM := Lib.hid (fun W => must_no 10 W)
      unfold faultV at HM
      have HY := Lib.hid (fun W => must_yes 10 W)
      by_cases hA : i ≠ 0 ∧ x = 0
      · obtain ⟨hi0, rfl⟩ := hA
        have HX : Hid (numS bs = .error 10) := by show _ = _; rw [HF.out, if_pos ⟨hi0, rfl⟩]
        have hz : ((i : Int) == 0) = false := by simp; omega
        go_wp2_with (first
          | (go_at_call 65; (with_reducible refine HO.out.mono ?_); rintro e w2 ⟨rfl, hc2, hs2⟩)
          | (go_at_call 59; (with_reducible refine (HM.out _).mono ?_); rintro e w3 ⟨rfl, rfl⟩)
          | (go_at_call 59; (with_reducible refine (HY.out _).mono ?_); rintro e w3 ⟨rfl, rfl⟩))
        exact ⟨rfl, GotN.error_ HX.out (hch.trans hc2) hs2⟩
      · by_cases hB : i = 9 ∧ 1 < x
        · have HX : Hid (numS bs = .error 10) := by show _ = _; rw [HF.out, if_neg hA, if_pos hB]
          obtain ⟨h9, h1⟩ := hB
          have hx0 : (x != 0) = true := by simp; omega
          have hz : ((i : Int) == 0) = false := by simp; omega
          have hi8 : decide ((i : Int) < 9) = false := by simp; omega
          have hx1 : decide (x ≤ 1) = false := by simp; omega
          clear hA h9
          go_wp2_with (first
            | (go_at_call 65; (with_reducible refine HO.out.mono ?_); rintro e w2 ⟨rfl, hc2, hs2⟩)
            | (go_at_call 59; (with_reducible refine (HM.out _).mono ?_); rintro e w3 ⟨rfl, rfl⟩)
            | (go_at_call 59; (with_reducible refine (HY.out _).mono ?_); rintro e w3 ⟨rfl, rfl⟩))
          exact ⟨rfl, GotN.error_ HX.out (hch.trans hc2) hs2⟩
        · obtain ⟨y, hy⟩ : ∃ y : Nat, x % 128 = y := ⟨(x % 128).toNat, by omega⟩
          have hy128 : y < 128 := by omega
          have hand : bits BinOp.and IntKind.u8 x 127 = y := (and127u8 x hx).trans hy
          have hT : (x % 128).toNat = y := by omega
          have HOR := Lib.hid (or_at acc y i hacc hy128 hi (by omega))
          have HBD : Hid (acc + y * 128 ^ i < 128 ^ (i + 1)) := by
            show _ < _
            have := Nat.mul_le_mul_right (128 ^ i) (show y ≤ 127 by omega)
            rw [Nat.pow_succ]
            omega
          have HXO : Hid (x < 128 → numS bs = .ok (acc + y * 128 ^ i, bs')) := by intro hlt; rw [HF.out, if_neg hA, if_neg hB, if_pos hlt, hT]
          have HXN : Hid (128 ≤ x → numF (9 - i) (i + 1) (acc + y * 128 ^ i) bs' = numS bs) := by intro hlt; rw [HF.out, if_neg hA, if_neg hB, if_neg (by omega), hT]
          clear hy hT
          by_cases hi0 : i = 0
          · have hz : ((i : Int) == 0) = true := by simp; omega
            have hi8 : (i : Int) < 9 := by omega
            clear hA hB hi0
            go_wp2_with (first
              | (go_at_call 65; (with_reducible refine HO.out.mono ?_); rintro e w2 ⟨rfl, hc2, hs2⟩)
              | (go_at_call 59; (with_reducible refine (HM.out _).mono ?_); rintro e w3 ⟨rfl, rfl⟩)
              | (go_at_call 59; (with_reducible refine (HY.out _).mono ?_); rintro e w3 ⟨rfl, rfl⟩))
            · go_ret
              rw [HOR.out]
              exact GotN.ok_ (HXO.out (by omega)) (hch.trans hc2) hs2
            · have hge : 128 ≤ x := by omega
              refine ⟨⟨i + 1, acc + y * 128 ^ i, bs', by omega, by go_num, by rw [HOR.out], HBD.out, hs2, hch.trans hc2, ?_, HR2.out⟩, by simp only [intOf]; omega⟩
              show _ = _
              rw [← HXN.out hge, show 10 - (i + 1) = 9 - i by omega]
          · have hz : ((i : Int) == 0) = false := by simp; omega
            have hx0 : (x != 0) = true := by simp; omega
            by_cases hi9 : i = 9
            · have hi8 : ¬ (i : Int) < 9 := by omega
              have hx1 : x ≤ 1 := by omega
              have hx2 : x < 128 := by omega
              clear hA hB hi0 hi9
              go_wp2_with (first
                | (go_at_call 65; (with_reducible refine HO.out.mono ?_); rintro e w2 ⟨rfl, hc2, hs2⟩)
                | (go_at_call 59; (with_reducible refine (HM.out _).mono ?_); rintro e w3 ⟨rfl, rfl⟩)
                | (go_at_call 59; (with_reducible refine (HY.out _).mono ?_); rintro e w3 ⟨rfl, rfl⟩))
              go_ret
              rw [HOR.out]
              exact GotN.ok_ (HXO.out (by omega)) (hch.trans hc2) hs2
            · have hi8 : (i : Int) < 9 := by omega
              clear hA hB hi0 hi9
              go_wp2_with (first
                | (go_at_call 65; (with_reducible refine HO.out.mono ?_); rintro e w2 ⟨rfl, hc2, hs2⟩)
                | (go_at_call 59; (with_reducible refine (HM.out _).mono ?_); rintro e w3 ⟨rfl, rfl⟩)
                | (go_at_call 59; (with_reducible refine (HY.out _).mono ?_); rintro e w3 ⟨rfl, rfl⟩))
              · go_ret
                rw [HOR.out]
                exact GotN.ok_ (HXO.out (by omega)) (hch.trans hc2) hs2
              · have hge : 128 ≤ x := by omega
                refine ⟨⟨i + 1, acc + y * 128 ^ i, bs', by omega, by go_num, by rw [HOR.out], HBD.out, hs2, hch.trans hc2, ?_, HR2.out⟩, by simp only [intOf]; omega⟩
                show _ = _
                rw [← HXN.out hge, show 10 - (i + 1) = 9 - i by omega]
end Go.Proofs.Ytdnddoiemaifjaa
