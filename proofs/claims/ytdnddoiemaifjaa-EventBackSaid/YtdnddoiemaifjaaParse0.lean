/- What Parse tells: plain; next once more. -/
import Derived.Test.YtdnddoiemaifjaaNextNo
import Derived.Test.YtdnddoiemaifjaaEvGood2
import Derived.Test.YtdnddoiemaifjaaRegionJ
namespace Go.Proofs.Ytdnddoiemaifjaa
open Go.RowKit
variable {B : Nat}
/-- What next says beside the event. -/
def nextOK (bs : List Int) : Bool × Int := if tK (gotE 0 octM bs 0).1 then (true, (nextM bs).2.2) else ((gotE 0 octM bs 0).2.2 != 0, (gotE 0 octM bs 0).2.2)
theorem nextOK_or (bs : List Int) : ((nextOK bs).1 = true ∧ (nextOK bs).2 = (nextM bs).2.2) ∨ ((nextOK bs).1 = false ∧ (nextOK bs).2 = 0 ∧ (nextM bs).2.2 = 10) := by
  unfold nextOK
  cases hk : tK (gotE 0 octM bs 0).1 with
  | true => exact .inl ⟨rfl, rfl⟩
  | false =>
    have hn : nextM bs = (ev00, (gotE 0 octM bs 0).2.1, if (gotE 0 octM bs 0).2.2 ≠ 0 then (gotE 0 octM bs 0).2.2 else 10) := by unfold nextM; rw [if_neg (by rw [hk]; decide)]
    rw [hn]
    by_cases h0 : (gotE 0 octM bs 0).2.2 = 0
    · right
      rw [h0]
      exact ⟨rfl, rfl, rfl⟩
    · left
      refine ⟨by simpa using h0, ?_⟩
      show _ = if _ then _ else _
      rw [if_pos h0]
      rfl
theorem next_det (b : Nat) (bs : List Int) (w : World) (h : Src B w b bs 0) (hB : B ≤ w.heap.size) (hu : U8s bs) : Calls Try.prog 29 #[.pointer (some ⟨b, 0, none⟩)] w fun e w' => e = .returned (.tuple #[evV (nextM bs).1, .bool (nextOK bs).1]) ∧ Chg (fun k => k = b) w w' ∧ Src B w' b (nextM bs).2.1 (nextOK bs).2 ∧ U8s (nextM bs).2.1 := by
  obtain ⟨⟨k, bs1, er1⟩, hg⟩ : ∃ q, gotE 0 octM bs 0 = q := ⟨_, rfl⟩
  cases hk : tK k with
  | true =>
    have hn : nextM bs = nextK k bs1 er1 := by unfold nextM; rw [hg]; simp only; rw [if_pos hk]
    have hq : nextOK bs = (true, (nextK k bs1 er1).2.2) := by unfold nextOK; rw [hg]; simp only; rw [if_pos hk, hn]
    rw [hn, hq]
    cases hc : tC k with
    | true => exact (next_ctx b bs w h hB hu k bs1 er1 hg hk hc).mono (fun e w' h => h)
    | false => exact (next_plain b bs w h hB hu k bs1 er1 hg hk hc).mono (fun e w' h => h)
  | false =>
    have hn : nextM bs = (ev00, bs1, if er1 ≠ 0 then er1 else 10) := by unfold nextM; rw [hg]; simp only; rw [if_neg (by rw [hk]; decide)]
    have hq : nextOK bs = (er1 != 0, er1) := by unfold nextOK; rw [hg]; simp only; rw [if_neg (by rw [hk]; decide)]
    rw [hn, hq]
    exact next_no b bs w h hB hu k bs1 er1 hg hk
theorem left2 (b : Nat) (A : Option Addr) (n c : Nat) (w : World) (h0 : Box w b 0 (.bool true)) (h1 : Box w b 1 (.slice A n c)) : Calls Try.prog 31 #[.pointer (some ⟨b, 0, none⟩)] w fun e w' => e = .returned (.int .i64 n) ∧ w = w' := by
  have hc := h1.cell
  have HM := Lib.hid (sis b true w h0.cell)
  clear h0 h1
  go_enter Try.func31, Try.ntmps31
  go_wp2_with ((with_reducible refine HM.out.mono ?_); rintro e w1 ⟨rfl, rfl⟩)
  go_ret
  exact ⟨rfl, rfl⟩
/-- The event at a begin. -/
def parseM (bs : List Int) : Ev × Int × Int := if (nextM bs).2.2 = 9 then (ev00, 0, 9) else if (nextM bs).2.2 ≠ 0 ∨ goodB (nextM bs).1 = false then (ev00, 0, 10) else ((nextM bs).1, (bs.length : Int) - ((nextM bs).2.1.length : Int), 0)
end Go.Proofs.Ytdnddoiemaifjaa
