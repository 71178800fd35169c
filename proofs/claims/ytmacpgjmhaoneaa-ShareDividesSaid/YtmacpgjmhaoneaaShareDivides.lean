/- The law ShareDivides, walked. -/
import Derived.Test.YtmacpgjmhaoneaaRefDivide
namespace Go.Proofs.Ytmacpgjmhaoneaa
open Go.RowKit
set_option maxRecDepth 100000 in
set_option maxHeartbeats 1000000 in
theorem hdivide_no (A : Option Addr) (n c : Nat) (l : List Cl) (cores : Int) (start : Int) (w : World) (hr : Rds w 2 A n c (cls l)) (h : cores < 0 ∨ 64 < cores ∨ goodC l = false) :
    Calls Try.prog 10 #[.int .i64 cores, .slice A n c, .int .i64 start] w fun e w' => e = .returned (.slice none 0 0) ∧ Below w.heap.size w w' := by
  have HG := Lib.hid (hgood A n c l w hr)
  have H := Lib.hid h
  generalize goodC l = g at *
  clear h
  by_cases h1 : cores < 0
  · go_enter Try.func10, Try.ntmps10
    go_wp2
    go_ret
    exact ⟨rfl, Below.refl _ _⟩
  · by_cases h2 : 64 < cores
    · go_enter Try.func10, Try.ntmps10
      go_wp2
      go_ret
      exact ⟨rfl, Below.refl _ _⟩
    · have hg : g = false := by rcases H.out with h | h | h <;> first | exact h | (exfalso; omega)
      subst hg
      go_enter Try.func10, Try.ntmps10
      go_wp2_with (go_at_call 12; (with_reducible refine HG.out.mono ?_); rintro e w1 ⟨rfl, hb1⟩)
      go_ret
      exact ⟨rfl, hb1⟩
set_option maxRecDepth 100000 in
set_option maxHeartbeats 1000000 in
theorem divide08_no (A : Option Addr) (n c : Nat) (l : List Cl) (cores : Int) (start : Int) (w : World) (hr : Rds w 2 A n c (cls l)) (h : cores < 0 ∨ 64 < cores ∨ goodC l = false) :
    Calls Try.prog 11 #[.int .i64 cores, .slice A n c, .int .i64 start] w fun e w' => e = .returned (.slice none 0 0) ∧ Below w.heap.size w w' := by
  have HG := Lib.hid (good08 A n c l w hr)
  have H := Lib.hid h
  generalize goodC l = g at *
  clear h
  by_cases h1 : cores < 0
  · go_enter Try.func11, Try.ntmps11
    go_wp2
    go_ret
    exact ⟨rfl, Below.refl _ _⟩
  · by_cases h2 : 64 < cores
    · go_enter Try.func11, Try.ntmps11
      go_wp2
      go_ret
      exact ⟨rfl, Below.refl _ _⟩
    · have hg : g = false := by rcases H.out with h | h | h <;> first | exact h | (exfalso; omega)
      subst hg
      go_enter Try.func11, Try.ntmps11
      go_wp2_with (go_at_call 13; (with_reducible refine HG.out.mono ?_); rintro e w1 ⟨rfl, hb1⟩)
      go_ret
      exact ⟨rfl, hb1⟩
/-- What both tell, refused or not. -/
def divV (cores : Int) (l : List Cl) (start : Int) (n : Nat) : List Int := if cores < 0 ∨ 64 < cores ∨ goodC l = false then [] else divideC cores.toNat l (atN start n)
theorem hdivide_all (A : Option Addr) (n c : Nat) (l : List Cl) (cores : Int) (start : Int) (w : World) (hr : Rds w 2 A n c (cls l)) (hs : I64 start) :
    Calls Try.prog 10 #[.int .i64 cores, .slice A n c, .int .i64 start] w fun e w' => (∃ B m d, e = .returned (.slice B m d) ∧ Rds w' 1 B m d (nums .i64 (divV cores l start n))) ∧ Below w.heap.size w w' := by
  by_cases h : cores < 0 ∨ 64 < cores ∨ goodC l = false
  · refine (hdivide_no A n c l cores start w hr h).mono fun e w' ⟨he, hb⟩ => ⟨⟨none, 0, 0, he, ?_⟩, hb⟩
    unfold divV
    rw [if_pos h]
    exact Rds.none_ _ _
  · refine (hdivideI A n c l cores start w hr (by cases hg : goodC l with | true => rfl | false => exact absurd (.inr (.inr hg)) h) (by omega) (by omega) hs).mono fun e w' ⟨⟨g, he, ho⟩, hb⟩ => ⟨⟨_, _, _, he, ?_⟩, hb⟩
    unfold divV
    rw [if_neg h]
    exact (own_rds' ho).2
theorem divide08_all (A : Option Addr) (n c : Nat) (l : List Cl) (cores : Int) (start : Int) (w : World) (hr : Rds w 2 A n c (cls l)) (hs : I64 start) :
    Calls Try.prog 11 #[.int .i64 cores, .slice A n c, .int .i64 start] w fun e w' => (∃ B m d, e = .returned (.slice B m d) ∧ Rds w' 1 B m d (nums .i64 (divV cores l start n))) ∧ Below w.heap.size w w' := by
  by_cases h : cores < 0 ∨ 64 < cores ∨ goodC l = false
  · refine (divide08_no A n c l cores start w hr h).mono fun e w' ⟨he, hb⟩ => ⟨⟨none, 0, 0, he, ?_⟩, hb⟩
    unfold divV
    rw [if_pos h]
    exact Rds.none_ _ _
  · obtain ⟨k, rfl⟩ : ∃ k : Nat, cores = k := ⟨cores.toNat, by omega⟩
    refine (divide08 A n c l k start w hr (by cases hg : goodC l with | true => rfl | false => exact absurd (.inr (.inr hg)) h) (by omega) hs).mono fun e w' ⟨⟨g, he, ho⟩, hb⟩ => ⟨⟨_, _, _, he, ?_⟩, hb⟩
    unfold divV
    rw [if_neg h]
    exact (own_rds' ho).2
set_option maxRecDepth 100000 in
set_option maxHeartbeats 4000000 in
theorem divides_walk (cores : Int) (A : Option Addr) (n c : Nat) (l : List Cl) (start : Int) (w : World) (hr : Rds w 2 A n c (cls l)) (hs : I64 start) :
    Calls Try.prog 3 #[.int .i64 cores, .slice A n c, .int .i64 start] w fun e w' => e = .returned (.bool true) ∧ Below w.heap.size w w' := by
  have H1 := Lib.hid (fun W h => hdivide_all A n c l cores start W h hs)
  have H2 := Lib.hid (fun W h => divide08_all A n c l cores start W h hs)
  have H3 := Lib.hid (fun W h => hgood A n c l W h)
  have H4 := Lib.hid (fun W h => good08 A n c l W h)
  generalize goodC l = g at *
  generalize divV cores l start n = xs at *
  have hgg : (g == g) = true := by simp
  have HI := Lib.hid (fun B1 m1 d1 B2 m2 d2 W h1 h2 => ints03 B1 m1 d1 xs B2 m2 d2 xs W h1 h2)
  rw [show decide (xs = xs) = true by simp] at HI
  by_cases h1 : 70 < (n : Int)
  · go_enter Try.func3, Try.ntmps3
    go_wp2_with (go_at_call 8; refine (lives08 _).mono ?_; rintro e w1 ⟨rfl, hb1⟩)
    go_ret
    exact ⟨rfl, hb1⟩
  · go_enter Try.func3, Try.ntmps3
    go_wp2_with (go_at_call 10; (with_reducible refine (H1.out _ hr).mono ?_); rintro e w1 ⟨⟨B1, m1, d1, rfl, hr1⟩, hb1⟩)
    go_wp2_with (go_at_call 11; (with_reducible refine (H2.out _ (hr.below hb1)).mono ?_); rintro e w2 ⟨⟨B2, m2, d2, rfl, hr2⟩, hb2⟩; have hr1' := hr1.below hb2; have hB2 := below_tr hb1 hb2)
    go_wp2_with (go_at_call 9; (with_reducible refine (HI.out _ _ _ _ _ _ _ hr1' hr2).mono ?_); rintro e w3 ⟨rfl, hb3⟩; have hB3 := below_tr hB2 hb3)
    go_wp2_with (go_at_call 12; (with_reducible refine (H3.out _ (hr.below hB3)).mono ?_); rintro e w4 ⟨rfl, hb4⟩; have hB4 := below_tr hB3 hb4)
    go_wp2_with (go_at_call 13; (with_reducible refine (H4.out _ (hr.below hB4)).mono ?_); rintro e w5 ⟨rfl, hb5⟩; have hB5 := below_tr hB4 hb5)
    go_wp2_with (go_at_call 8; refine (lives08 _).mono ?_; rintro e w6 ⟨rfl, hb6⟩)
    go_ret
    exact ⟨rfl, below_tr hB5 hb6⟩
end Go.Proofs.Ytmacpgjmhaoneaa
