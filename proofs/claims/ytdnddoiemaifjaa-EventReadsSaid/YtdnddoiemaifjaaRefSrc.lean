/- The reference's source: fail, num. -/
import Derived.Test.YtdnddoiemaifjaaSrcInts
namespace Go.Proofs.Ytdnddoiemaifjaa
open Go.RowKit
variable {L B : Nat}
/-- The reference's source: its bytes lie below a bound, and not in its own block. -/
structure RSrc (L B : Nat) (w : World) (b : Nat) (bs : List Int) (er : Int) : Prop where
  row : ∃ A n c, Box w b 0 (.slice A n c) ∧ Rds w 1 A n c (nums .u8 bs) ∧ (∀ ad, A = some ad → ad.block ≠ b ∧ L ≤ ad.block ∧ ad.block < B)
  err : Box w b 1 (.int .i64 er)
theorem RSrc.below {w w1 : World} {b : Nat} {bs : List Int} {er : Int} (h : RSrc L B w b bs er) (hb : Below w.heap.size w w1) : RSrc L B w1 b bs er := by
  obtain ⟨A, n, c, h1, h2, h3⟩ := h.row
  exact ⟨⟨A, n, c, h1.below hb, h2.below hb, h3⟩, h.err.below hb⟩
theorem RSrc.keep {S : Nat → Prop} {w w1 : World} {b : Nat} {bs : List Int} {er : Int} (h : RSrc L B w b bs er) (hc : Chg S w w1) (hb : ¬ S b) (hS : ∀ k, L ≤ k → k < B → ¬ S k) : RSrc L B w1 b bs er := by
  obtain ⟨A, n, c, h1, h2, h3⟩ := h.row
  exact ⟨⟨A, n, c, h1.keep hc hb, hc.rds h2 (fun ad e => hS _ (h3 ad e).2.1 (h3 ad e).2.2), h3⟩, h.err.keep hc hb⟩
theorem RSrc.cut {w : World} {b v : Nat} {bs : List Int} {er : Int} (h : RSrc L B w b bs er) {A : Option Addr} {n c : Nat} (h1 : Box w b 0 (.slice A n c)) (h2 : Rds w 1 A n c (nums .u8 bs)) (h3 : ∀ ad, A = some ad → ad.block ≠ b ∧ L ≤ ad.block ∧ ad.block < B) (hv : v ≤ n) :
    RSrc L B (w.setCell ⟨b, 0, none⟩ (.slice (if c = v then A else A.map (·.add v)) (n - v : Nat) (c - v : Nat))) b (bs.drop v) er := by
  have hch : ∀ v, Chg (fun k => k = b) w (w.setCell ⟨b, 0, none⟩ v) := fun v => Chg.setCell (S := fun k => k = b) (Chg.refl _ _) b 0 _ rfl
  have hA : ∀ ad, (if c = v then A else A.map (·.add v)) = some ad → ad.block ≠ b ∧ L ≤ ad.block ∧ ad.block < B := by
    intro ad e
    cases A with
    | none => split at e <;> cases e
    | some a =>
      split at e
      · exact h3 ad e
      · cases e
        have hbk : (a.add v).block = a.block := by unfold Addr.add; split <;> rfl
        rw [hbk]
        exact h3 a rfl
  refine ⟨⟨_, _, _, h1.set _, ?_, hA⟩, h.err.other (by decide) _⟩
  have hr := h2.cut v hv
  rw [show (nums .u8 bs).drop v = nums .u8 (bs.drop v) by simp [nums]] at hr
  exact (hch _).rds hr (fun a e => (hA a e).1)
set_option maxRecDepth 100000 in
set_option maxHeartbeats 2000000 in
theorem rfail (b : Nat) (x : Int) (bs : List Int) (w : World) (h : RSrc L B w b bs 0) : Calls Try.prog 61 #[.pointer (some ⟨b, 0, none⟩), .int .i64 x] w fun e w' => e = .returned (.tuple #[]) ∧ Chg (fun k => k = b) w w' ∧ RSrc L B w' b [] x := by
  obtain ⟨A, n, c, h1, h2, h3⟩ := h.row
  have he := h.err
  have e1 := he.cell
  have e2 := he.free
  have k1 := h1.other (o' := 1) (by decide) (.int .i64 x)
  have c1 := k1.cell
  have c2 := k1.free
  go_enter Try.func61, Try.ntmps61
  go_wp2
  refine bodyPost_end (v := .tuple #[]) (by simp [results, Try.results61, go_sem]) rfl ⟨rfl, ?_, ?_⟩
  · exact Chg.setCell (S := fun k => k = b) (Chg.setCell (S := fun k => k = b) (Chg.refl _ _) b 1 _ rfl) b 0 _ rfl
  · exact ⟨⟨none, 0, 0, k1.set _, Rds.none_ _ _, fun ad e => by cases e⟩, (he.set (.int .i64 x)).other (by decide) _⟩
/-- What a getter of the reference leaves. -/
def TellsR {T : Type} (val : T → Value) (L B : Nat) (w : World) (b : Nat) (r : T × List Int × Int) (e : Ending) (w' : World) : Prop := e = .returned (val r.1) ∧ Chg (fun k => k = b) w w' ∧ RSrc L B w' b r.2.1 r.2.2
set_option maxRecDepth 100000 in
set_option maxHeartbeats 2000000 in
theorem rnum_err (b : Nat) (er : Int) (bs : List Int) (w : World) (h : RSrc L B w b bs er) (h0 : er ≠ 0) : Calls Try.prog 60 #[.pointer (some ⟨b, 0, none⟩)] w fun e w' => e = .returned (.int .u64 0) ∧ w = w' := by
  have e1 := h.err.cell
  have hn : (er == 0) = false := by simpa using h0
  clear h h0
  go_enter Try.func60, Try.ntmps60
  go_wp2
  go_loopw [3, 4] (fun _ _ wr => wr = w) (fun _ _ _ => 0)
  case atStart => rfl
  case round =>
    subst hrel
    go_wp2
    go_ret
    exact ⟨rfl, rfl⟩
set_option maxRecDepth 100000 in
set_option maxHeartbeats 8000000 in
theorem rnum0 (b : Nat) (bs : List Int) (w : World) (h : RSrc L B w b bs 0) (hbs : U8s bs) (hlen : bs.length ≤ 1000000) : Calls Try.prog 60 #[.pointer (some ⟨b, 0, none⟩)] w (TellsR (fun v : Nat => .int .u64 v) L B w b (gotE 0 numS bs 0)) := by
  obtain ⟨A, n, c, h1, h2, h3⟩ := h.row
  have HN := Lib.hid (rds_len h2)
  have hnm : n ≤ 1000000 := by rw [← HN.out]; exact hlen
  have hnc := h2.le
  have e1 := h.err.cell
  have e2 := h1.cell
  have e3 := h1.free
  have HB := Lib.hid hbs
  have HF9 := Lib.hid (rfail b 9 bs w h)
  have HF10 := Lib.hid (rfail b 10 bs w h)
  clear hbs
  go_enter Try.func60, Try.ntmps60
  go_wp2
  go_loopw [3, 4] (fun nv iv wr => wr = w ∧ ∃ i acc : Nat, i ≤ 9 ∧ i ≤ n ∧ iv = .int .i64 i ∧ nv = .int .u64 acc ∧ acc < 128 ^ i ∧ Hid (numF (10 - i) i acc (bs.drop i) = numS bs)) (fun _ iv _ => 10 - (intOf iv).toNat)
  case atStart => exact ⟨rfl, 0, 0, by omega, by omega, rfl, rfl, by simp, rfl⟩
  case round =>
    obtain ⟨rfl, i, acc, hi, hin, rfl, rfl, hacc, HE⟩ := hrel
    by_cases hlt : i < n
    · have hib : i < bs.length := by rw [HN.out]; exact hlt
      obtain ⟨ad, rfl⟩ := h2.some_ (by omega)
      have hcell := h2.cell ad rfl i _ (nums_get .u8 bs i hib)
      have hx := HB.out bs[i] (List.getElem_mem hib)
      have hF0 : numS bs = if i ≠ 0 ∧ bs[i] = 0 then .error 10 else if i = 9 ∧ 1 < bs[i] then .error 10 else if bs[i] < 128 then .ok (acc + (bs[i] % 128).toNat * 128 ^ i, bs.drop (i + 1)) else numF (9 - i) (i + 1) (acc + (bs[i] % 128).toNat * 128 ^ i) (bs.drop (i + 1)) := by
        rw [← HE.out, show 10 - i = (9 - i) + 1 by omega, List.drop_eq_getElem_cons hib]
        rfl
      generalize bs[i] = x at hcell hx hF0
      have HF := Lib.hid hF0
      clear hF0 HE
      by_cases hA : i ≠ 0 ∧ x = 0
      · obtain ⟨hi0, rfl⟩ := hA
        have HX : Hid (numS bs = .error 10) := by show _ = _; rw [HF.out, if_pos ⟨hi0, rfl⟩]
        have hz2 : decide ((0 : Int) < i) = true := by simp; omega
        have hz3 : (0 : Int) < i := by omega
        clear HF hx
        by_cases h9 : i = 9
        · have h9' : ((i : Int) == 9) = true := by simp; omega
          clear h9
          go_wp2_with (go_at_call 61; (with_reducible refine HF10.out.mono ?_); rintro e w2 ⟨rfl, hc2, hs2⟩)
          go_ret
          rw [gotE_error HX.out]
          exact ⟨rfl, hc2, hs2⟩
        · have h9' : ((i : Int) == 9) = false := by simp; omega
          clear h9
          go_wp2_with (go_at_call 61; (with_reducible refine HF10.out.mono ?_); rintro e w2 ⟨rfl, hc2, hs2⟩)
          go_ret
          rw [gotE_error HX.out]
          exact ⟨rfl, hc2, hs2⟩
      · by_cases hB : i = 9 ∧ 1 < x
        · have HX : Hid (numS bs = .error 10) := by show _ = _; rw [HF.out, if_neg hA, if_pos hB]
          obtain ⟨h9, h1x⟩ := hB
          have h9' : ((i : Int) == 9) = true := by simp; omega
          have h1' : decide (1 < x) = true := decide_eq_true h1x
          clear hA HF h9
          go_wp2_with (go_at_call 61; (with_reducible refine HF10.out.mono ?_); rintro e w2 ⟨rfl, hc2, hs2⟩)
          go_ret
          rw [gotE_error HX.out]
          exact ⟨rfl, hc2, hs2⟩
        · obtain ⟨y, hy⟩ : ∃ y : Nat, x % 128 = y := ⟨(x % 128).toNat, by omega⟩
          have hy128 : y < 128 := by omega
          have hand : bits BinOp.and IntKind.u8 x 127 = y := (and127u8 x hx).trans hy
          have hT : (x % 128).toNat = y := by omega
          have HOR := Lib.hid (or_at acc y i hacc hy128 hi (by omega))
          have HBD : Hid (acc + y * 128 ^ i < 128 ^ (i + 1)) := by
            show _ < _
            have := Nat.mul_le_mul_right (128 ^ i) (show y ≤ 127 by omega)
            rw [Nat.pow_succ]
            omega
          have HXO : Hid (x < 128 → numS bs = .ok (acc + y * 128 ^ i, bs.drop (i + 1))) := by intro hlt; rw [HF.out, if_neg hA, if_neg hB, if_pos hlt, hT]
          have HXN : Hid (128 ≤ x → numF (9 - i) (i + 1) (acc + y * 128 ^ i) (bs.drop (i + 1)) = numS bs) := by intro hlt; rw [HF.out, if_neg hA, if_neg hB, if_neg (by omega), hT]
          have HCU := Lib.hid (h.cut (v := i + 1) h1 h2 h3 (by omega))
          have hn1 : ((i + 1 : Nat) : Int) ≤ n := by omega
          clear hy hT HF
          by_cases hi0 : i = 0
          · have h9' : ((i : Int) == 9) = false := by simp; omega
            have h0' : decide ((0 : Int) < i) = false := by simp; omega
            have h0s : (i : Int) ≤ 0 := by omega
            clear hA hB hi0
            go_wp2
            all_goals first
              | (exfalso; omega)
              | (have hge : 128 ≤ x := by omega
                 refine ⟨⟨trivial, i + 1, acc + y * 128 ^ i, by omega, by omega, by go_num, by rw [HOR.out], HBD.out, ?_⟩, by simp only [intOf]; omega⟩
                 show _ = _
                 rw [← HXN.out hge, show 10 - (i + 1) = 9 - i by omega])
              | (have hxl : x < 128 := by omega
                 go_ret
                 rw [HOR.out, gotE_ok (HXO.out hxl)]
                 have hcu := HCU.out
                 refine ⟨rfl, Chg.setCell (S := fun k => k = b) (Chg.refl _ _) b 0 _ rfl, ?_⟩
                 first | (have hc : c = i + 1 := (by assumption); simp [hc] at hcu; exact hcu) | (have hc : ¬ c = i + 1 := (by assumption); simp [hc] at hcu; exact hcu))
          · have h0' : decide ((0 : Int) < i) = true := by simp; omega
            have hx0 : (x == 0) = false := by simp; omega
            by_cases h9 : i = 9
            · have h9' : ((i : Int) == 9) = true := by simp; omega
              have hx1 : decide (1 < x) = false := by simp; omega
              have hx2 : x < 128 := by omega
              clear hA hB hi0 h9
              go_wp2
              all_goals first
                | (exfalso; omega)
                | (have hge : 128 ≤ x := by omega
                   refine ⟨⟨trivial, i + 1, acc + y * 128 ^ i, by omega, by omega, by go_num, by rw [HOR.out], HBD.out, ?_⟩, by simp only [intOf]; omega⟩
                   show _ = _
                   rw [← HXN.out hge, show 10 - (i + 1) = 9 - i by omega])
                | (have hxl : x < 128 := by omega
                   go_ret
                   rw [HOR.out, gotE_ok (HXO.out hxl)]
                   have hcu := HCU.out
                   refine ⟨rfl, Chg.setCell (S := fun k => k = b) (Chg.refl _ _) b 0 _ rfl, ?_⟩
                   first | (have hc : c = i + 1 := (by assumption); simp [hc] at hcu; exact hcu) | (have hc : ¬ c = i + 1 := (by assumption); simp [hc] at hcu; exact hcu))
            · have h9' : ((i : Int) == 9) = false := by simp; omega
              have h9s : i < 9 := by omega
              clear hA hB hi0 h9
              go_wp2
              all_goals first
                | (exfalso; omega)
                | (have hge : 128 ≤ x := by omega
                   refine ⟨⟨trivial, i + 1, acc + y * 128 ^ i, by omega, by omega, by go_num, by rw [HOR.out], HBD.out, ?_⟩, by simp only [intOf]; omega⟩
                   show _ = _
                   rw [← HXN.out hge, show 10 - (i + 1) = 9 - i by omega])
                | (have hxl : x < 128 := by omega
                   go_ret
                   rw [HOR.out, gotE_ok (HXO.out hxl)]
                   have hcu := HCU.out
                   refine ⟨rfl, Chg.setCell (S := fun k => k = b) (Chg.refl _ _) b 0 _ rfl, ?_⟩
                   first | (have hc : c = i + 1 := (by assumption); simp [hc] at hcu; exact hcu) | (have hc : ¬ c = i + 1 := (by assumption); simp [hc] at hcu; exact hcu))
    · have HX : Hid (numS bs = .error 9) := by
        show _ = _
        rw [← HE.out, show 10 - i = (9 - i) + 1 by omega, List.drop_of_length_le (by rw [HN.out]; omega)]
        rfl
      go_wp2_with (go_at_call 61; (with_reducible refine HF9.out.mono ?_); rintro e w2 ⟨rfl, hc2, hs2⟩)
      go_ret
      rw [gotE_error HX.out]
      exact ⟨rfl, hc2, hs2⟩
end Go.Proofs.Ytdnddoiemaifjaa
