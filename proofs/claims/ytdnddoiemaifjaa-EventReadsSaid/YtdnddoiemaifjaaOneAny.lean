/- The reference's one, of any bytes. -/
import Derived.Test.YtdnddoiemaifjaaOne
import Derived.Test.YtdnddoiemaifjaaOne3
namespace Go.Proofs.Ytdnddoiemaifjaa
open Go.RowKit
variable {L B : Nat}
/-- What one leaves: where there is no error the event is next's. -/
def OneQ (L B : Nat) (w : World) (b : Nat) (r : Ev × List Int × Int) (e : Ending) (w' : World) : Prop := ∃ ev, e = .returned (evV ev) ∧ Chg (fun k => k = b) w w' ∧ RSrc L B w' b r.2.1 r.2.2 ∧ U8s r.2.1 ∧ r.2.1.length ≤ 1000000 ∧ (r.2.2 = 0 → ev = r.1)
theorem nextK_er {k : Int} {bs : List Int} {er : Int} (h : er ≠ 0) (hT : tT k = false) (hV : tV k = false) (hC : tC k = false) : (nextK k bs er).2 = (bs, er) := by
  unfold nextK
  rw [if_neg (by rw [hC]; decide)]
  simp only [Q6, Q5, Q4, Q3, Q2, hT, hV, hC]
  unfold numQ
  simp only [if_pos]
  rw [gotE_err h]
  rfl
theorem octM_ok {bs : List Int} (h0 : (gotE 0 octM bs 0).2.2 ≠ 0) : (gotE 0 octM bs 0).1 = 0 := by
  unfold gotE at h0 ⊢
  rw [if_neg (by decide)] at h0 ⊢
  cases ho : octM bs with
  | error x => rfl
  | ok q => rw [ho] at h0; exact absurd rfl h0
theorem tK_range {k : Int} : tK k = true ↔ 1 ≤ k ∧ k ≤ 7 := by
  unfold tK
  simp only [Bool.or_eq_true, beq_iff_eq]
  omega
theorem one_any (b : Nat) (bs : List Int) (w : World) (h : RSrc L B w b bs 0) (hB : B ≤ w.heap.size) (hu : U8s bs) (hlen : bs.length ≤ 1000000) : Calls Try.prog 33 #[.pointer (some ⟨b, 0, none⟩)] w (OneQ L B w b (nextM bs)) := by
  obtain ⟨⟨k, bs1, er1⟩, hg⟩ : ∃ q, gotE 0 octM bs 0 = q := ⟨_, rfl⟩
  have hok := octM_ok (bs := bs)
  rw [hg] at hok
  simp only at hok
  cases hk : tK k with
  | true =>
    have hn : nextM bs = nextK k bs1 er1 := by unfold nextM; rw [hg]; simp only; rw [if_pos hk]
    obtain ⟨h1, h7⟩ := tK_range.1 hk
    have he1 : er1 = 0 := by
      by_cases h0 : er1 = 0
      · exact h0
      · have := hok h0; omega
    subst he1
    rw [hn]
    have fin : ∀ {e : Ending} {w' : World}, OneK L B w b (nextK k bs1 0) e w' → OneQ L B w b (nextK k bs1 0) e w' := by
      rintro e w' ⟨rfl, a1, a2, a3, a4⟩
      exact ⟨_, rfl, a1, a2, a3, a4, fun _ => rfl⟩
    have hkk : k = 1 ∨ k = 2 ∨ k = 3 ∨ k = 4 ∨ k = 5 ∨ k = 6 ∨ k = 7 := by omega
    rcases hkk with rfl | rfl | rfl | rfl | rfl | rfl | rfl
    · exact (one_none b bs w h hB hu hlen _ bs1 hg (by decide) (by decide) rfl rfl rfl).mono (fun e w' h => fin h)
    · exact (one_ctx b bs w h hB hu hlen _ bs1 hg (by decide) (by decide) rfl rfl rfl).mono (fun e w' h => fin h)
    · exact (one_thr b bs w h hB hu hlen _ bs1 hg (by decide) (by decide) rfl rfl rfl).mono (fun e w' h => fin h)
    · exact (one_both b bs w h hB hu hlen _ bs1 hg (by decide) (by decide) rfl rfl rfl).mono (fun e w' h => fin h)
    · exact (one_val b bs w h hB hu hlen _ bs1 hg (by decide) (by decide) rfl rfl rfl).mono (fun e w' h => fin h)
    · exact (one_none b bs w h hB hu hlen _ bs1 hg (by decide) (by decide) rfl rfl rfl).mono (fun e w' h => fin h)
    · exact (one_none b bs w h hB hu hlen _ bs1 hg (by decide) (by decide) rfl rfl rfl).mono (fun e w' h => fin h)
  | false =>
    have hkr : ¬ (1 ≤ k ∧ k ≤ 7) := fun h => by rw [tK_range.2 h] at hk; cases hk
    have hT : tT k = false := by
      unfold tT
      have e1 : (k == 3) = false := by simp; omega
      have e2 : (k == 2) = false := by simp; omega
      have e3 : (k == 4) = false := by simp; omega
      rw [e1, e2, e3]; rfl
    have hV : tV k = false := by
      unfold tV
      have e1 : (k == 4) = false := by simp; omega
      have e2 : (k == 5) = false := by simp; omega
      rw [e1, e2]; rfl
    have hC : tC k = false := by unfold tC; simp; omega
    have hn : nextM bs = (ev00, bs1, if er1 ≠ 0 then er1 else 10) := by unfold nextM; rw [hg]; simp only; rw [if_neg (by rw [hk]; decide)]
    rw [hn]
    by_cases h0 : er1 = 0
    · subst h0
      have hz := nextK_er (bs := bs1) (er := 10) (by decide) hT hV hC
      have fin : ∀ {e : Ending} {w' : World}, OneK L B w b (nextK k bs1 10) e w' → OneQ L B w b (ev00, bs1, if (0 : Int) ≠ 0 then 0 else 10) e w' := by
        rintro e w' ⟨rfl, a1, a2, a3, a4⟩
        rw [hz] at a2 a3 a4
        exact ⟨_, rfl, a1, a2, a3, a4, fun h => by simp at h⟩
      by_cases h1 : k < 1
      · exact (one_new1 b bs w h hB hu hlen k bs1 hg h1 hT hV hC).mono (fun e w' h => fin h)
      · exact (one_new2 b bs w h hB hu hlen k bs1 hg (by omega) hT hV hC).mono (fun e w' h => fin h)
    · have hz := nextK_er (bs := bs1) (er := er1) h0 hT hV hC
      refine (one_err b bs w h hB hu hlen k bs1 er1 hg h0 hT hV hC).mono ?_
      rintro e w' ⟨rfl, a1, a2, a3, a4⟩
      rw [hz] at a2 a3 a4
      rw [if_pos h0]
      exact ⟨_, rfl, a1, a2, a3, a4, fun h => absurd h h0⟩
end Go.Proofs.Ytdnddoiemaifjaa
