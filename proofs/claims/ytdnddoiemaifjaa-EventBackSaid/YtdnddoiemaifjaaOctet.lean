/- Package code: must, octet. -/
import Derived.Test.YtdnddoiemaifjaaCaught
import Derived.Deep.Slices
namespace Go.Proofs.Ytdnddoiemaifjaa
open Go.RowKit
set_option maxHeartbeats 1000000 in
theorem must_yes (er : Int) (w : World) : Calls Try.prog 59 #[.bool true, .int .i64 er] w fun e w' => e = .returned (.tuple #[]) ∧ w = w' := by
  go_enter Try.func59, Try.ntmps59
  go_wp2
  exact bodyPost_end (v := .tuple #[]) (by simp [results, Try.results59, go_sem]) rfl ⟨rfl, rfl⟩
set_option maxHeartbeats 1000000 in
theorem must_no (er : Int) (w : World) : Calls Try.prog 59 #[.bool false, .int .i64 er] w fun e w' => e = .panicked [{ v := faultV er, recovered := false }] ∧ w = w' := by
  have hp : ∀ (v : Value) (w : World), (Instr.panic (.iface 92 v)).run Try.prog w = .halt (.panic (.iface 92 v)) w := fun v w => by kernel_rfl
  go_enter Try.func59, Try.ntmps59
  go_wp2
  exact ⟨rfl, rfl, rfl⟩
variable {B : Nat}
/-- A source that was made: its bytes lie below a bound, and not in its own block. -/
structure Src (B : Nat) (w : World) (b : Nat) (bs : List Int) (er : Int) : Prop where
  made : Box w b 0 (.bool true)
  row : ∃ A n c, Box w b 1 (.slice A n c) ∧ Rds w 1 A n c (nums .u8 bs) ∧ (∀ ad, A = some ad → ad.block ≠ b ∧ ad.block < B)
  err : Box w b 2 (.int .i64 er)
theorem Src.below {w w1 : World} {b : Nat} {bs : List Int} {er : Int} (h : Src B w b bs er) (hb : Below w.heap.size w w1) : Src B w1 b bs er := by
  obtain ⟨A, n, c, h1, h2, h3⟩ := h.row
  exact ⟨h.made.below hb, ⟨A, n, c, h1.below hb, h2.below hb, h3⟩, h.err.below hb⟩
def thrown (er : Int) : Ending := .panicked [{ v := faultV er, recovered := false }]
set_option maxRecDepth 100000 in
set_option maxHeartbeats 2000000 in
theorem octet_none (b : Nat) (er : Int) (w : World) (h : Src B w b [] er) : Calls Try.prog 65 #[.pointer (some ⟨b, 0, none⟩)] w fun e w' => e = thrown 9 ∧ w = w' := by
  obtain ⟨A, n, c, h1, h2, h3⟩ := h.row
  have hn := rds_len h2
  obtain rfl : n = 0 := by simpa using hn.symm
  have hc := h1.cell
  have HM := Lib.hid (must_no 9 w)
  unfold faultV at HM
  unfold thrown faultV
  clear h h1 h2 h3
  go_enter Try.func65, Try.ntmps65
  go_wp2_with (go_at_call 59; (with_reducible refine HM.out.mono ?_); rintro e w1 ⟨rfl, rfl⟩)
  exact ⟨rfl, rfl, rfl⟩
set_option maxRecDepth 100000 in
set_option maxHeartbeats 2000000 in
theorem octet_some (b : Nat) (er x : Int) (bs : List Int) (w : World) (h : Src B w b (x :: bs) er) : Calls Try.prog 65 #[.pointer (some ⟨b, 0, none⟩)] w fun e w' => e = .returned (.int .u8 x) ∧ Chg (fun k => k = b) w w' ∧ Src B w' b bs er := by
  obtain ⟨A, n, c, h1, h2, h3⟩ := h.row
  have hn := rds_len h2
  rw [List.length_cons] at hn
  obtain ⟨ad, rfl⟩ := h2.some_ (by omega)
  have hle := h2.le
  have hx := h2.cell ad rfl 0 (.int .u8 x) (by simp [nums])
  have hc := h1.cell
  have hf := h1.free
  have hn0 : (0 : Int) < n := by omega
  have hn1 : (1 : Int) ≤ n := by omega
  have hn2 : (1 : Int) ≤ c := by omega
  have hadd0 : ad.add 0 = ad := by unfold Addr.add; cases ad; rename_i bl o i; cases i <;> simp
  rw [hadd0] at hx
  obtain ⟨A5, hA5⟩ : ∃ A5 : Addr, (if c = 1 then ad else ad.add 1) = A5 := ⟨_, rfl⟩
  have hbk : A5.block = ad.block := by rw [← hA5]; split; · rfl
                                       · unfold Addr.add; split <;> rfl
  have hch : ∀ v, Chg (fun k => k = b) w (w.setCell ⟨b, 1, none⟩ v) := fun v => Chg.setCell (S := fun k => k = b) (Chg.refl _ _) b 1 _ rfl
  have hr2 : Rds w 1 (some A5) (n - 1) (c - 1) (nums .u8 bs) := by
    refine ⟨by rw [nums_length]; omega, by omega, by have := h2.max; omega, (fun e => by cases e), fun a e j u hj => ?_⟩
    cases e
    rw [← hA5]
    by_cases hc1 : c = 1
    · have : bs = [] := List.eq_nil_of_length_eq_zero (by omega)
      subst this
      simp [nums] at hj
    · rw [if_neg hc1, Go.Deep.add_add]
      refine h2.cell ad rfl _ _ ?_
      rw [Nat.add_comm]
      simpa [nums] using hj
  have HS : Hid (Src B (w.setCell ⟨b, 1, none⟩ (.slice (some A5) (n - 1) (c - 1))) b bs er) := by
    refine ⟨h.made.other (by decide) _, ⟨some A5, n - 1, c - 1, h1.set _, ?_, fun a e => by cases e; rw [hbk]; exact h3 ad rfl⟩, h.err.other (by decide) _⟩
    exact (hch _).rds hr2 (fun a e => by cases e; rw [hbk]; exact (h3 ad rfl).1)
  have hm := must_yes 9 w
  rw [show true = decide (0 < n) from (decide_eq_true (by omega)).symm] at hm
  have HM := Lib.hid hm
  clear hm
  have HC := Lib.hid (hch (.slice (some A5) (n - 1) (c - 1)))
  have HA := Lib.hid hA5
  clear h h1 h2 h3 hr2 hch hbk hA5 hadd0
  have hA := HA.out
  by_cases hc1 : c = 1
  · subst hc1
    obtain rfl : n = 1 := by omega
    clear HM
    have HM := Lib.hid (must_yes 9 w)
    rw [if_pos rfl] at hA
    subst hA
    go_enter Try.func65, Try.ntmps65
    go_wp2_with (go_at_call 59; (with_reducible refine HM.out.mono ?_); rintro e w1 ⟨rfl, rfl⟩)
    go_ret
    exact ⟨rfl, HC.out, HS.out⟩
  · rw [if_neg hc1] at hA
    subst hA
    go_enter Try.func65, Try.ntmps65
    go_wp2_with (go_at_call 59; (with_reducible refine HM.out.mono ?_); rintro e w1 ⟨rfl, rfl⟩)
    go_ret
    exact ⟨rfl, HC.out, HS.out⟩
end Go.Proofs.Ytdnddoiemaifjaa
