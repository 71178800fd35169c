/- Package code: what each getter's step does: Int, Flag, Text. -/
import Derived.Test.YtdnddoiemaifjaaSrcStep
import Derived.Test.YtdnddoiemaifjaaRegionS
namespace Go.Proofs.Ytdnddoiemaifjaa
open Go.RowKit
variable {B : Nat}
set_option maxRecDepth 100000 in
set_option maxHeartbeats 4000000 in
theorem int1 (sb lb mb b : Nat) (er : Int) (bs : List Int) (least most : Int) (w : World) (h : Src B w b bs er) (hb : U8s bs) (hs : Box w sb 0 (.pointer (some ⟨b, 0, none⟩))) (hl : Box w lb 0 (.int .i64 least)) (hm : Box w mb 0 (.int .i64 most)) :
    Calls Try.prog 67 #[.pointer (some ⟨sb, 0, none⟩), .pointer (some ⟨lb, 0, none⟩), .pointer (some ⟨mb, 0, none⟩)] w (GotV (fun v => .int .i64 v) B w b er (withinM bs least most)) := by
  have HW := Lib.hid (within_walk (B := B) b er bs least most w h hb)
  have h1 := hs.cell
  have h2 := hl.cell
  have h3 := hm.cell
  cases hn : withinM bs least most with
  | error e0 =>
    rw [hn] at HW
    clear hn
    go_enter Try.func67, Try.ntmps67
    go_wp2_with (go_at_call 68; refine HW.out.mono ?_; rintro e w2 ⟨he2, hc2, bs2, hs2⟩; unfold thrown at he2; subst he2)
    exact ⟨rfl, GotV.error_ rfl hc2 hs2⟩
  | ok q =>
    obtain ⟨v, rest⟩ := q
    rw [hn] at HW
    clear hn
    go_enter Try.func67, Try.ntmps67
    go_wp2_with (go_at_call 68; refine HW.out.mono ?_; rintro e w2 ⟨rfl, hc2, hs2⟩)
    go_ret
    exact GotV.ok_ (val := fun v => .int .i64 v) rfl hc2 hs2
/-- The next byte. -/
theorem octet_walk (b : Nat) (er : Int) (bs : List Int) (w : World) (h : Src B w b bs er) : Calls Try.prog 65 #[.pointer (some ⟨b, 0, none⟩)] w (GotV (fun v => .int .u8 v) B w b er (octM bs)) := by
  cases bs with
  | nil =>
    refine (octet_none b er w h).mono ?_
    rintro e w1 ⟨rfl, rfl⟩
    exact ⟨rfl, Chg.refl _ _, [], h⟩
  | cons x bs =>
    refine (octet_some b er x bs w h).mono ?_
    rintro e w1 ⟨rfl, hc, hs⟩
    exact ⟨rfl, hc, hs⟩
theorem Rds.cut {w : World} {A : Option Addr} {n c : Nat} {cs : List Value} (h : Rds w 1 A n c cs) (k : Nat) (hk : k ≤ n) : Rds w 1 (if c = k then A else A.map (·.add k)) (n - k) (c - k) (cs.drop k) := by
  have hl := h.len
  have hle := h.le
  refine ⟨by rw [List.length_drop]; omega, by omega, by have := h.max; omega, (fun e => ?_), fun a e j u hj => ?_⟩
  · split at e
    · omega
    · cases A with
      | none => have := h.nil_n; omega
      | some ad => cases e
  · cases A with
    | none => split at e <;> cases e
    | some ad =>
      by_cases hc : c = k
      · rw [List.drop_of_length_le (by omega)] at hj
        simp at hj
      · rw [if_neg hc] at e
        cases e
        show w.cell? ((ad.add k).add j) = some u
        rw [Go.Deep.add_add]
        refine h.cell ad rfl _ _ ?_
        rw [← hj, List.getElem?_drop]
theorem Src.cut {w : World} {b v : Nat} {bs : List Int} {er : Int} (h : Src B w b bs er) {A : Option Addr} {n c : Nat} (h1 : Box w b 1 (.slice A n c)) (h2 : Rds w 1 A n c (nums .u8 bs)) (h3 : ∀ ad, A = some ad → ad.block ≠ b ∧ ad.block < B) (hv : v ≤ n) :
    Src B (w.setCell ⟨b, 1, none⟩ (.slice (if c = v then A else A.map (·.add v)) (n - v : Nat) (c - v : Nat))) b (bs.drop v) er := by
  have hch : ∀ v, Chg (fun k => k = b) w (w.setCell ⟨b, 1, none⟩ v) := fun v => Chg.setCell (S := fun k => k = b) (Chg.refl _ _) b 1 _ rfl
  have hA : ∀ ad, (if c = v then A else A.map (·.add v)) = some ad → ad.block ≠ b ∧ ad.block < B := by
    intro ad e
    cases A with
    | none => split at e <;> cases e
    | some a =>
      split at e
      · exact h3 ad e
      · cases e
        have hbk : (a.add v).block = a.block := by unfold Addr.add; split <;> rfl
        rw [hbk]
        exact h3 a rfl
  refine ⟨h.made.other (by decide) _, ⟨_, _, _, h1.set _, ?_, hA⟩, h.err.other (by decide) _⟩
  have hr := h2.cut v hv
  rw [show (nums .u8 bs).drop v = nums .u8 (bs.drop v) by simp [nums]] at hr
  exact (hch _).rds hr (fun a e => (hA a e).1)
theorem textM_pos {bs : List Int} {most : Int} {v : Nat} {rest : List Int} (hn : countM bs most = .ok (v, rest)) (h : v ≤ rest.length) : textM bs most = .ok (rest.take v, rest.drop v) := by
  unfold textM; rw [hn]; simp only [thenE]; rw [if_pos h]
theorem textM_neg {bs : List Int} {most : Int} {v : Nat} {rest : List Int} (hn : countM bs most = .ok (v, rest)) (h : ¬ v ≤ rest.length) : textM bs most = .error 9 := by
  unfold textM; rw [hn]; simp only [thenE]; rw [if_neg h]
end Go.Proofs.Ytdnddoiemaifjaa
