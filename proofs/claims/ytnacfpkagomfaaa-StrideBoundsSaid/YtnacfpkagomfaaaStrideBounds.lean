/- The law StrideBounds, walked. -/
import Derived.Test.YtnacfpkagomfaaaStrideIdeal
namespace Go.Proofs.Ytnacfpkagomfaaa
open Go.RowKit
def idA (xs : List Int) (i quanta : Int) : Int := if allV xs i = true then ((idQ xs i.toNat (max quanta 0).toNat : Nat) : Int) else 0
def idB (xs : List Int) (i quanta : Int) : Int := if allV xs i = true then ((idR xs i.toNat (max quanta 0).toNat : Nat) : Int) else 0
theorem sideal_all (A : Option Addr) (n c : Nat) (xs : List Int) (i quanta : Int) (w : World) (hr : Rds w 1 A n c (nums .i64 xs)) (hq : I64 quanta) :
    Calls Try.prog 11 #[.slice A n c, .int .i64 i, .int .i64 quanta] w fun e w' => e = .returned (.tuple #[.int .i64 (idA xs i quanta), .int .i64 (idB xs i quanta)]) ∧ Below w.heap.size w w' := by
  unfold idA idB
  cases hv : allV xs i with
  | false =>
    refine (sideal_no A n c xs i quanta w hr hv).mono ?_
    rintro e w' ⟨he, rfl⟩
    exact ⟨he, Below.refl _ _⟩
  | true =>
    obtain ⟨_, h2, h3, _⟩ := allV_iff.1 hv
    obtain ⟨k, rfl⟩ : ∃ k : Nat, i = k := ⟨i.toNat, by omega⟩
    rw [if_pos rfl, if_pos rfl, Int.toNat_natCast]
    unfold I64 at hq
    exact sidealN A n c xs k (max quanta 0).toNat quanta (by omega) w hr (by omega) hv (by omega)
theorem wideal_all (A : Option Addr) (n c : Nat) (xs : List Int) (i quanta : Int) (w : World) (hr : Rds w 1 A n c (nums .i64 xs)) (hq : I64 quanta) :
    Calls Try.prog 12 #[.slice A n c, .int .i64 i, .int .i64 quanta] w fun e w' => e = .returned (.tuple #[.int .i64 (idA xs i quanta), .int .i64 (idB xs i quanta)]) ∧ Below w.heap.size w w' := by
  unfold idA idB
  cases hv : allV xs i with
  | false =>
    refine (wideal_no A n c xs i quanta w hr hv).mono ?_
    rintro e w' ⟨he, rfl⟩
    exact ⟨he, Below.refl _ _⟩
  | true =>
    obtain ⟨_, h2, h3, _⟩ := allV_iff.1 hv
    obtain ⟨k, rfl⟩ : ∃ k : Nat, i = k := ⟨i.toNat, by omega⟩
    rw [if_pos rfl, if_pos rfl, Int.toNat_natCast]
    unfold I64 at hq
    exact wideal A n c xs k (max quanta 0).toNat quanta (by omega) w hr (by omega) hv (by omega)
set_option maxRecDepth 100000 in
set_option maxHeartbeats 4000000 in
theorem bounds_law (A : Option Addr) (n c : Nat) (xs : List Int) (i quanta : Int) (w : World) (hr : Rds w 1 A n c (nums .i64 xs)) (hq : I64 quanta) :
    Calls Try.prog 5 #[.slice A n c, .int .i64 i, .int .i64 quanta] w fun e w' => e = .returned (.bool true) ∧ Below w.heap.size w w' := by
  have HL := Lib.hid (fun W => lives17 W)
  by_cases h50 : 50 < (n : Int)
  · go_enter Try.func5, Try.ntmps5
    go_wp2_with (go_at_call 9; (with_reducible refine (HL.out _).mono ?_); rintro e w1 ⟨rfl, hb1⟩)
    go_ret
    exact ⟨rfl, hb1⟩
  · have H1 := Lib.hid (fun W h => sideal_all A n c xs i quanta W h hq)
    have H2 := Lib.hid (fun W h => wideal_all A n c xs i quanta W h hq)
    have H3 := Lib.hid (fun W h => sbound A n c xs i W h)
    have H4 := Lib.hid (fun W h => wbound A n c xs i W h)
    generalize idA xs i quanta = p at *
    generalize idB xs i quanta = q at *
    generalize boundV xs i = r at *
    have e1 : (p == p) = true := by simp
    have e2 : (q == q) = true := by simp
    have e3 : (r == r) = true := by simp
    clear hq
    go_enter Try.func5, Try.ntmps5
    go_wp2_with (go_at_call 11; (with_reducible refine (H1.out _ hr).mono ?_); rintro e w1 ⟨rfl, hb1⟩)
    go_wp2_with (go_at_call 12; (with_reducible refine (H2.out _ (hr.below hb1)).mono ?_); rintro e w2 ⟨rfl, hb2⟩; have hB2 := below_tr hb1 hb2)
    go_wp2_with (go_at_call 13; (with_reducible refine (H3.out _ (hr.below hB2)).mono ?_); rintro e w3 ⟨rfl, hb3⟩; have hB3 := below_tr hB2 hb3)
    go_wp2_with (go_at_call 14; (with_reducible refine (H4.out _ (hr.below hB3)).mono ?_); rintro e w4 ⟨rfl, hb4⟩; have hB4 := below_tr hB3 hb4)
    go_wp2_with (go_at_call 9; (with_reducible refine (HL.out _).mono ?_); rintro e w5 ⟨rfl, hb5⟩)
    go_ret
    exact ⟨rfl, below_tr hB4 hb5⟩
end Go.Proofs.Ytnacfpkagomfaaa
