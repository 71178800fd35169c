/- Package code: zag, within, count. -/
import Derived.Test.YtdnddoiemaifjaaSrcPlain
namespace Go.Proofs.Ytdnddoiemaifjaa
open Go.RowKit
variable {B : Nat}
/-- What a getter of bytes leaves: any value. -/
def GotV {T : Type} (val : T → Value) (B : Nat) (w : World) (b : Nat) (er : Int) (r : Except Int (T × List Int)) (e : Ending) (w' : World) : Prop :=
  match r with
  | .error x => e = thrown x ∧ Chg (fun k => k = b) w w' ∧ ∃ bs, Src B w' b bs er
  | .ok (v, rest) => e = .returned (val v) ∧ Chg (fun k => k = b) w w' ∧ Src B w' b rest er
theorem GotV.error_ {T : Type} {val : T → Value} {w w' : World} {b : Nat} {er x : Int} {r : Except Int (T × List Int)} (hr : r = .error x) {bs : List Int} (hc : Chg (fun k => k = b) w w') (hs : Src B w' b bs er) : GotV val B w b er r (thrown x) w' := by
  subst hr; exact ⟨rfl, hc, bs, hs⟩
theorem GotV.ok_ {T : Type} {val : T → Value} {w w' : World} {b : Nat} {er : Int} {v : T} {rest : List Int} {r : Except Int (T × List Int)} (hr : r = .ok (v, rest)) (hc : Chg (fun k => k = b) w w') (hs : Src B w' b rest er) : GotV val B w b er r (.returned (val v)) w' := by
  subst hr; exact ⟨rfl, hc, hs⟩
set_option maxRecDepth 100000 in
set_option maxHeartbeats 1000000 in
theorem czag (n : Nat) (h : n < 18446744073709551616) (w : World) : Calls Try.prog 73 #[.int .u64 n] w fun e w' => e = .returned (.int .i64 (zagV n)) ∧ w = w' := by
  have H := Lib.hid h
  clear h
  go_enter Try.func73, Try.ntmps73
  go_wp2
  go_ret
  refine ⟨ret_int ?_, rfl⟩
  have h := H.out
  rw [and1_u64 n h]
  have e1 : wrap64 ((n : Int) / 2) = ((n / 2 : Nat) : Int) := by unfold wrap64; omega
  have e2 : ∀ k : Nat, k < 2 → wrap64 (-wrap64 ((k : Nat) : Int)) = -(k : Int) := fun k hk => by unfold wrap64; omega
  rw [e1, e2 _ (by omega)]
  unfold zagV
  by_cases h2 : n % 2 = 0
  · rw [if_pos h2, h2, show -((0 : Nat) : Int) = 0 from rfl]
    exact xor_0 _ (by omega)
  · rw [if_neg h2, show n % 2 = 1 by omega, show -((1 : Nat) : Int) = -1 from rfl]
    exact xor_m1 _ (by omega)
set_option maxRecDepth 100000 in
set_option maxHeartbeats 4000000 in
theorem within_walk (b : Nat) (er : Int) (bs : List Int) (least most : Int) (w : World) (h : Src B w b bs er) (hb : U8s bs) :
    Calls Try.prog 68 #[.pointer (some ⟨b, 0, none⟩), .int .i64 least, .int .i64 most] w (GotV (fun v => .int .i64 v) B w b er (withinM bs least most)) := by
  have HW := Lib.hid (number_walk (B := B) b er bs w h hb)
  have HM := Lib.hid (fun W => must_no 8 W)
  unfold faultV at HM
  have HY := Lib.hid (fun W => must_yes 8 W)
  cases hn : numS bs with
  | error e0 =>
    have HX : Hid (withinM bs least most = .error e0) := by show _ = _; unfold withinM; rw [hn]; rfl
    rw [hn] at HW
    clear hn
    go_enter Try.func68, Try.ntmps68
    go_wp2_with (go_at_call 58; refine HW.out.mono ?_; rintro e w2 ⟨he2, hc2, bs2, hs2⟩; unfold thrown at he2; subst he2)
    exact ⟨rfl, GotV.error_ HX.out hc2 hs2⟩
  | ok q =>
    obtain ⟨v, rest⟩ := q
    rw [hn] at HW
    have HZ := Lib.hid (fun W => czag v (numS_rest hb hn).1 W)
    have hq : withinM bs least most = if least ≤ zagV v ∧ zagV v ≤ most then .ok (zagV v, rest) else .error 8 := by unfold withinM; rw [hn]; rfl
    generalize zagV v = z at HZ hq
    by_cases h1 : least ≤ z
    · have h1' : decide (least ≤ z) = true := decide_eq_true h1
      by_cases h2 : z ≤ most
      · have h2' : decide (z ≤ most) = true := decide_eq_true h2
        have HX : Hid (withinM bs least most = .ok (z, rest)) := by show _ = _; rw [hq, if_pos ⟨h1, h2⟩]
        clear hn hq
        go_enter Try.func68, Try.ntmps68
        go_wp2_with (first
          | (go_at_call 58; refine HW.out.mono ?_; rintro e w2 ⟨rfl, hc2, hs2⟩)
          | (go_at_call 73; (with_reducible refine (HZ.out _).mono ?_); rintro e w3 ⟨rfl, rfl⟩)
          | (go_at_call 59; (with_reducible refine (HY.out _).mono ?_); rintro e w3 ⟨rfl, rfl⟩))
        go_ret
        exact GotV.ok_ (val := fun v => .int .i64 v) HX.out hc2 hs2
      · have h2' : decide (z ≤ most) = false := decide_eq_false h2
        have HX : Hid (withinM bs least most = .error 8) := by show _ = _; rw [hq, if_neg (fun h => h2 h.2)]
        clear hn hq
        go_enter Try.func68, Try.ntmps68
        go_wp2_with (first
          | (go_at_call 58; refine HW.out.mono ?_; rintro e w2 ⟨rfl, hc2, hs2⟩)
          | (go_at_call 73; (with_reducible refine (HZ.out _).mono ?_); rintro e w3 ⟨rfl, rfl⟩)
          | (go_at_call 59; (with_reducible refine (HM.out _).mono ?_); rintro e w3 ⟨rfl, rfl⟩))
        exact ⟨rfl, GotV.error_ HX.out hc2 hs2⟩
    · have h1' : decide (least ≤ z) = false := decide_eq_false h1
      have HX : Hid (withinM bs least most = .error 8) := by show _ = _; rw [hq, if_neg (fun h => h1 h.1)]
      clear hn hq
      go_enter Try.func68, Try.ntmps68
      go_wp2_with (first
        | (go_at_call 58; refine HW.out.mono ?_; rintro e w2 ⟨rfl, hc2, hs2⟩)
        | (go_at_call 73; (with_reducible refine (HZ.out _).mono ?_); rintro e w3 ⟨rfl, rfl⟩)
        | (go_at_call 59; (with_reducible refine (HM.out _).mono ?_); rintro e w3 ⟨rfl, rfl⟩))
      exact ⟨rfl, GotV.error_ HX.out hc2 hs2⟩
end Go.Proofs.Ytdnddoiemaifjaa
