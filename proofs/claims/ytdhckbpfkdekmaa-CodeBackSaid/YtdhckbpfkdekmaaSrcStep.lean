/- Package code: zag, within, count. -/
import Derived.Test.YtdhckbpfkdekmaaSrcPlain
namespace Go.Proofs.Ytdhckbpfkdekmaa
open Go.RowKit
variable {B : Nat}
/-- What a getter of bytes leaves: any value. -/
def GotV {T : Type} (val : T → Value) (B : Nat) (w : World) (b : Nat) (er : Int) (r : Except Int (T × List Int)) (e : Ending) (w' : World) : Prop :=
  match r with
  | .error x => e = thrown x ∧ Chg (fun k => k = b) w w' ∧ ∃ bs, Src B w' b bs er
  | .ok (v, rest) => e = .returned (val v) ∧ Chg (fun k => k = b) w w' ∧ Src B w' b rest er
theorem GotV.error_ {T : Type} {val : T → Value} {w w' : World} {b : Nat} {er x : Int} {r : Except Int (T × List Int)} (hr : r = .error x) {bs : List Int} (hc : Chg (fun k => k = b) w w') (hs : Src B w' b bs er) : GotV val B w b er r (thrown x) w' := by
  subst hr; exact ⟨rfl, hc, bs, hs⟩
theorem GotV.ok_ {T : Type} {val : T → Value} {w w' : World} {b : Nat} {er : Int} {v : T} {rest : List Int} {r : Except Int (T × List Int)} (hr : r = .ok (v, rest)) (hc : Chg (fun k => k = b) w w') (hs : Src B w' b rest er) : GotV val B w b er r (.returned (val v)) w' := by
  subst hr; exact ⟨rfl, hc, hs⟩
set_option maxRecDepth 100000 in
set_option maxHeartbeats 1000000 in
theorem czag (n : Nat) (h : n < 18446744073709551616) (w : World) : Calls Try.prog 64 #[.int .u64 n] w fun e w' => e = .returned (.int .i64 (zagV n)) ∧ w = w' := by
  have H := Lib.hid h
  clear h
  go_enter Try.func64, Try.ntmps64
  go_wp2
  go_ret
  refine ⟨ret_int ?_, rfl⟩
  have h := H.out
  rw [and1_u64 n h]
  have e1 : wrap64 ((n : Int) / 2) = ((n / 2 : Nat) : Int) := by unfold wrap64; omega
  have e2 : ∀ k : Nat, k < 2 → wrap64 (-wrap64 ((k : Nat) : Int)) = -(k : Int) := fun k hk => by unfold wrap64; omega
  rw [e1, e2 _ (by omega)]
  unfold zagV
  by_cases h2 : n % 2 = 0
  · rw [if_pos h2, h2, show -((0 : Nat) : Int) = 0 from rfl]
    exact xor_0 _ (by omega)
  · rw [if_neg h2, show n % 2 = 1 by omega, show -((1 : Nat) : Int) = -1 from rfl]
    exact xor_m1 _ (by omega)
set_option maxRecDepth 100000 in
set_option maxHeartbeats 4000000 in
theorem within_walk (b : Nat) (er : Int) (bs : List Int) (least most : Int) (w : World) (h : Src B w b bs er) (hb : U8s bs) :
    Calls Try.prog 45 #[.pointer (some ⟨b, 0, none⟩), .int .i64 least, .int .i64 most] w (GotV (fun v => .int .i64 v) B w b er (withinM bs least most)) := by
  have HW := Lib.hid (number_walk (B := B) b er bs w h hb)
  have HM := Lib.hid (fun W => must_no 8 W)
  unfold faultV at HM
  have HY := Lib.hid (fun W => must_yes 8 W)
  cases hn : numS bs with
  | error e0 =>
    have HX : Hid (withinM bs least most = .error e0) := by show _ = _; unfold withinM; rw [hn]; rfl
    rw [hn] at HW
    clear hn
    go_enter Try.func45, Try.ntmps45
    go_wp2_with (go_at_call 40; refine HW.out.mono ?_; rintro e w2 ⟨he2, hc2, bs2, hs2⟩; unfold thrown at he2; subst he2)
    exact ⟨rfl, GotV.error_ HX.out hc2 hs2⟩
  | ok q =>
    obtain ⟨v, rest⟩ := q
    rw [hn] at HW
    have HZ := Lib.hid (fun W => czag v (numS_rest hb hn).1 W)
    have hq : withinM bs least most = if least ≤ zagV v ∧ zagV v ≤ most then .ok (zagV v, rest) else .error 8 := by unfold withinM; rw [hn]; rfl
    generalize zagV v = z at HZ hq
    by_cases h1 : least ≤ z
    · have h1' : decide (least ≤ z) = true := decide_eq_true h1
      by_cases h2 : z ≤ most
      · have h2' : decide (z ≤ most) = true := decide_eq_true h2
        have HX : Hid (withinM bs least most = .ok (z, rest)) := by show _ = _; rw [hq, if_pos ⟨h1, h2⟩]
        clear hn hq
        go_enter Try.func45, Try.ntmps45
        go_wp2_with (first
          | (go_at_call 40; refine HW.out.mono ?_; rintro e w2 ⟨rfl, hc2, hs2⟩)
          | (go_at_call 64; (with_reducible refine (HZ.out _).mono ?_); rintro e w3 ⟨rfl, rfl⟩)
          | (go_at_call 41; (with_reducible refine (HY.out _).mono ?_); rintro e w3 ⟨rfl, rfl⟩))
        go_ret
        exact GotV.ok_ (val := fun v => .int .i64 v) HX.out hc2 hs2
      · have h2' : decide (z ≤ most) = false := decide_eq_false h2
        have HX : Hid (withinM bs least most = .error 8) := by show _ = _; rw [hq, if_neg (fun h => h2 h.2)]
        clear hn hq
        go_enter Try.func45, Try.ntmps45
        go_wp2_with (first
          | (go_at_call 40; refine HW.out.mono ?_; rintro e w2 ⟨rfl, hc2, hs2⟩)
          | (go_at_call 64; (with_reducible refine (HZ.out _).mono ?_); rintro e w3 ⟨rfl, rfl⟩)
          | (go_at_call 41; (with_reducible refine (HM.out _).mono ?_); rintro e w3 ⟨rfl, rfl⟩))
        exact ⟨rfl, GotV.error_ HX.out hc2 hs2⟩
    · have h1' : decide (least ≤ z) = false := decide_eq_false h1
      have HX : Hid (withinM bs least most = .error 8) := by show _ = _; rw [hq, if_neg (fun h => h1 h.1)]
      clear hn hq
      go_enter Try.func45, Try.ntmps45
      go_wp2_with (first
        | (go_at_call 40; refine HW.out.mono ?_; rintro e w2 ⟨rfl, hc2, hs2⟩)
        | (go_at_call 64; (with_reducible refine (HZ.out _).mono ?_); rintro e w3 ⟨rfl, rfl⟩)
        | (go_at_call 41; (with_reducible refine (HM.out _).mono ?_); rintro e w3 ⟨rfl, rfl⟩))
      exact ⟨rfl, GotV.error_ HX.out hc2 hs2⟩
set_option maxRecDepth 100000 in
set_option maxHeartbeats 4000000 in
theorem count_walk (b : Nat) (er : Int) (bs : List Int) (most : Int) (w : World) (h : Src B w b bs er) (hb : U8s bs) (hm : I64 most) :
    Calls Try.prog 48 #[.pointer (some ⟨b, 0, none⟩), .int .i64 most] w (GotV (fun v : Nat => .int .i64 v) B w b er (countM bs most)) := by
  have HW := Lib.hid (number_walk (B := B) b er bs w h hb)
  have HM := Lib.hid (fun W => must_no 8 W)
  unfold faultV at HM
  have HY := Lib.hid (fun W => must_yes 8 W)
  have HI := Lib.hid hm
  clear hm
  by_cases hm0 : 0 ≤ most
  · have hmx : max most 0 = most := by omega
    have hwr : IntKind.u64.wrap most = most := by rw [IntKind.wrap_u64]; have := HI.out; unfold I64 at this; omega
    cases hn : numS bs with
    | error e0 =>
      have HX : Hid (countM bs most = .error e0) := by show _ = _; unfold countM; rw [hn]; rfl
      rw [hn] at HW
      clear hn
      go_enter Try.func48, Try.ntmps48
      go_wp2_with (go_at_call 40; refine HW.out.mono ?_; rintro e w2 ⟨he2, hc2, bs2, hs2⟩; unfold thrown at he2; subst he2)
      exact ⟨rfl, GotV.error_ HX.out hc2 hs2⟩
    | ok q =>
      obtain ⟨v, rest⟩ := q
      rw [hn] at HW
      have hq : countM bs most = if (v : Int) ≤ most then .ok (v, rest) else .error 8 := by unfold countM; rw [hn]; simp only [thenE]; rw [hmx]
      by_cases h1 : (v : Int) ≤ most
      · have h1' : decide ((v : Int) ≤ IntKind.u64.wrap most) = true := by rw [hwr]; exact decide_eq_true h1
        have HX : Hid (countM bs most = .ok (v, rest)) := by show _ = _; rw [hq, if_pos h1]
        have HV : Hid (v < 9223372036854775808) := by show _ < _; have := HI.out; unfold I64 at this; omega
        clear hn hq hwr h1 hmx
        go_enter Try.func48, Try.ntmps48
        go_wp2_with (first
          | (go_at_call 40; refine HW.out.mono ?_; rintro e w2 ⟨rfl, hc2, hs2⟩)
          | (go_at_call 41; (with_reducible refine (HY.out _).mono ?_); rintro e w3 ⟨rfl, rfl⟩))
        go_ret
        have e1 : wrap64 (v : Int) = v := by have := HV.out; unfold wrap64; omega
        show GotV _ _ _ _ _ _ (.returned (.int .i64 (wrap64 (v : Int)))) _
        rw [e1]
        exact GotV.ok_ (val := fun v : Nat => .int .i64 v) HX.out hc2 hs2
      · have h1' : decide ((v : Int) ≤ IntKind.u64.wrap most) = false := by rw [hwr]; exact decide_eq_false h1
        have HX : Hid (countM bs most = .error 8) := by show _ = _; rw [hq, if_neg h1]
        clear hn hq hwr h1 hmx
        go_enter Try.func48, Try.ntmps48
        go_wp2_with (first
          | (go_at_call 40; refine HW.out.mono ?_; rintro e w2 ⟨rfl, hc2, hs2⟩)
          | (go_at_call 41; (with_reducible refine (HM.out _).mono ?_); rintro e w3 ⟨rfl, rfl⟩))
        exact ⟨rfl, GotV.error_ HX.out hc2 hs2⟩
  · have hmx : max most 0 = 0 := by omega
    have hwr : IntKind.u64.wrap 0 = 0 := by decide
    have hm1 : most < 0 := by omega
    cases hn : numS bs with
    | error e0 =>
      have HX : Hid (countM bs most = .error e0) := by show _ = _; unfold countM; rw [hn]; rfl
      rw [hn] at HW
      clear hn
      go_enter Try.func48, Try.ntmps48
      go_wp2_with (go_at_call 40; refine HW.out.mono ?_; rintro e w2 ⟨he2, hc2, bs2, hs2⟩; unfold thrown at he2; subst he2)
      exact ⟨rfl, GotV.error_ HX.out hc2 hs2⟩
    | ok q =>
      obtain ⟨v, rest⟩ := q
      rw [hn] at HW
      have hq : countM bs most = if (v : Int) ≤ 0 then .ok (v, rest) else .error 8 := by unfold countM; rw [hn]; simp only [thenE]; rw [hmx]
      by_cases h1 : (v : Int) ≤ 0
      · have h1' : decide (v = 0) = true := decide_eq_true (by omega)
        have HX : Hid (countM bs most = .ok (v, rest)) := by show _ = _; rw [hq, if_pos h1]
        have HV : Hid (v < 9223372036854775808) := by show _ < _; have := HI.out; unfold I64 at this; omega
        clear hn hq hwr h1 hmx
        go_enter Try.func48, Try.ntmps48
        go_wp2_with (first
          | (go_at_call 40; refine HW.out.mono ?_; rintro e w2 ⟨rfl, hc2, hs2⟩)
          | (go_at_call 41; (with_reducible refine (HY.out _).mono ?_); rintro e w3 ⟨rfl, rfl⟩))
        go_ret
        have e1 : wrap64 (v : Int) = v := by have := HV.out; unfold wrap64; omega
        show GotV _ _ _ _ _ _ (.returned (.int .i64 (wrap64 (v : Int)))) _
        rw [e1]
        exact GotV.ok_ (val := fun v : Nat => .int .i64 v) HX.out hc2 hs2
      · have h1' : decide (v = 0) = false := decide_eq_false (by omega)
        have HX : Hid (countM bs most = .error 8) := by show _ = _; rw [hq, if_neg h1]
        clear hn hq hwr h1 hmx
        go_enter Try.func48, Try.ntmps48
        go_wp2_with (first
          | (go_at_call 40; refine HW.out.mono ?_; rintro e w2 ⟨rfl, hc2, hs2⟩)
          | (go_at_call 41; (with_reducible refine (HM.out _).mono ?_); rintro e w3 ⟨rfl, rfl⟩))
        exact ⟨rfl, GotV.error_ HX.out hc2 hs2⟩
end Go.Proofs.Ytdhckbpfkdekmaa
