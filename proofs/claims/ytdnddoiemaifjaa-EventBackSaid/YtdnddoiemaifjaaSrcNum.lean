/- Package code: Source.Num. -/
import Derived.Test.YtdnddoiemaifjaaGet64
namespace Go.Proofs.Ytdnddoiemaifjaa
open Go.RowKit
variable {B : Nat}
theorem numF_err : ∀ (k i acc : Nat) (bs : List Int) (x : Int), k + i = 10 → 0 < k → (∀ y ∈ bs, 0 ≤ y) → numF k i acc bs = .error x → x = 9 ∨ x = 10
  | 0, _, _, _, _, _, h, _, _ => absurd h (Nat.lt_irrefl 0)
  | k + 1, i, acc, [], x, _, _, _, h => by
    simp only [numF, Except.error.injEq] at h
    exact .inl h.symm
  | k + 1, i, acc, y :: bs, x, hk, _, hb, h => by
    unfold numF at h
    split at h
    · simp only [Except.error.injEq] at h; exact .inr h.symm
    · split at h
      · simp only [Except.error.injEq] at h; exact .inr h.symm
      · split at h
        · cases h
        · rename_i h9 h128
          exact numF_err k (i + 1) _ bs x (by omega) (by omega) (fun z hz => hb z (List.mem_cons_of_mem _ hz)) h
/-- What Num of a source says. -/
def numM (bs : List Int) (most : Nat) : Except Int (Nat × List Int) := match numS bs with
  | .error e => .error e
  | .ok (v, rest) => if v ≤ most then .ok (v, rest) else .error 8
theorem numM_err {bs : List Int} (hb : ∀ y ∈ bs, 0 ≤ y ∧ y < 256) {most : Nat} {x : Int} (h : numM bs most = .error x) : x ≠ 0 := by
  unfold numM at h
  cases hn : numS bs with
  | error e =>
    rw [hn] at h
    simp only [Except.error.injEq] at h
    have := numF_err 10 0 0 bs e (by omega) (by omega) (fun y hy => (hb y hy).1) hn
    omega
  | ok q =>
    obtain ⟨v, rest⟩ := q
    rw [hn] at h
    simp only at h
    split at h
    · cases h
    · simp only [Except.error.injEq] at h; omega
set_option maxRecDepth 100000 in
set_option maxHeartbeats 4000000 in
theorem num1 (sb mb b most : Nat) (er : Int) (bs : List Int) (w : World) (h : Src B w b bs er) (hb : ∀ x ∈ bs, 0 ≤ x ∧ x < 256) (hs : Box w sb 0 (.pointer (some ⟨b, 0, none⟩))) (hmb : Box w mb 0 (.int .u64 most)) (h2 : mb ≠ b) :
    Calls Try.prog 57 #[.pointer (some ⟨sb, 0, none⟩), .pointer (some ⟨mb, 0, none⟩)] w (GotN B w b er (numM bs most)) := by
  have HW := Lib.hid (number_walk (B := B) b er bs w h hb)
  have hsc := hs.cell
  have HM := Lib.hid (fun W => must_no 8 W)
  unfold faultV at HM
  have HY := Lib.hid (fun W => must_yes 8 W)
  cases hn : numS bs with
  | error e0 =>
    have HX : Hid (numM bs most = .error e0) := by show _ = _; unfold numM; rw [hn]
    rw [hn] at HW
    clear hn
    go_enter Try.func57, Try.ntmps57
    go_wp2_with (go_at_call 58; refine HW.out.mono ?_; rintro e w2 ⟨he2, hc2, bs2, hs2⟩; unfold thrown at he2; subst he2)
    exact ⟨rfl, GotN.error_ HX.out hc2 hs2⟩
  | ok q =>
    obtain ⟨v, rest⟩ := q
    rw [hn] at HW
    by_cases hv : v ≤ most
    · have HX : Hid (numM bs most = .ok (v, rest)) := by show _ = _; unfold numM; rw [hn]; simp only; rw [if_pos hv]
      have hv1 : (v : Int) ≤ most := by omega
      clear hn hv
      go_enter Try.func57, Try.ntmps57
      go_wp2_with (first
        | (go_at_call 58; refine HW.out.mono ?_; rintro e w2 ⟨rfl, hc2, hs2⟩; have hmc := (hmb.keep hc2 h2).cell)
        | (go_at_call 59; (with_reducible refine (HY.out _).mono ?_); rintro e w3 ⟨rfl, rfl⟩))
      go_ret
      exact GotN.ok_ HX.out hc2 hs2
    · have HX : Hid (numM bs most = .error 8) := by show _ = _; unfold numM; rw [hn]; simp only; rw [if_neg hv]
      have hv1 : decide (v ≤ most) = false := decide_eq_false hv
      clear hn hv
      go_enter Try.func57, Try.ntmps57
      go_wp2_with (first
        | (go_at_call 58; refine HW.out.mono ?_; rintro e w2 ⟨rfl, hc2, hs2⟩; have hmc := (hmb.keep hc2 h2).cell)
        | (go_at_call 59; (with_reducible refine (HM.out _).mono ?_); rintro e w3 ⟨rfl, rfl⟩))
      exact ⟨rfl, GotN.error_ HX.out hc2 hs2⟩
/-- What a getter leaves. -/
def Told (B : Nat) (w : World) (b : Nat) (r : Except Int (Nat × List Int)) (e : Ending) (w' : World) : Prop :=
  match r with
  | .error x => e = .returned (.int .u64 0) ∧ Chg (fun k => k = b) w w' ∧ Src B w' b [] x
  | .ok (v, rest) => e = .returned (.int .u64 v) ∧ Chg (fun k => k = b) w w' ∧ Src B w' b rest 0
theorem Told.error_ {w w' : World} {b : Nat} {x : Int} {r : Except Int (Nat × List Int)} (hr : r = .error x) (hc : Chg (fun k => k = b) w w') (hs : Src B w' b [] x) : Told B w b r (.returned (.int .u64 0)) w' := by
  subst hr; exact ⟨rfl, hc, hs⟩
theorem Told.ok_ {w w' : World} {b : Nat} {v : Nat} {rest : List Int} {r : Except Int (Nat × List Int)} (hr : r = .ok (v, rest)) (hc : Chg (fun k => k = b) w w') (hs : Src B w' b rest 0) : Told B w b r (.returned (.int .u64 v)) w' := by
  subst hr; exact ⟨rfl, hc, hs⟩
set_option maxRecDepth 100000 in
set_option maxHeartbeats 4000000 in
theorem srcNum (b most : Nat) (bs : List Int) (w : World) (h : Src B w b bs 0) (hB : B ≤ w.heap.size) (hb : ∀ x ∈ bs, 0 ≤ x ∧ x < 256) :
    Calls Try.prog 35 #[.pointer (some ⟨b, 0, none⟩), .int .u64 most] w (Told B w b (numM bs most)) := by
  have hlt := h.made.lt
  have hal : Below w.heap.size w ((w.alloc (.cells #[.pointer (some ⟨b, 0, none⟩)] 55)).alloc (.cells #[.int .u64 most] 54)) := below_al (below_al (Below.refl _ _) _) _
  have h2 := h.below hal
  have BS := (Box.new w (.pointer (some ⟨b, 0, none⟩)) 55).below (below_al (Below.refl _ _) (.cells #[.int .u64 most] 54))
  have BM := Box.new (w.alloc (.cells #[.pointer (some ⟨b, 0, none⟩)] 55)) (.int .u64 most) 54
  have hz1 : (w.alloc (.cells #[.pointer (some ⟨b, 0, none⟩)] 55)).heap.size = w.heap.size + 1 := by simp
  rw [hz1] at BM
  have hst : ∀ W, Below ((w.alloc (.cells #[.pointer (some ⟨b, 0, none⟩)] 55)).alloc (.cells #[.int .u64 most] 54)).heap.size ((w.alloc (.cells #[.pointer (some ⟨b, 0, none⟩)] 55)).alloc (.cells #[.int .u64 most] 54)) W → Src B W b bs 0 → Calls Try.prog 57 #[.pointer (some ⟨w.heap.size, 0, none⟩), .pointer (some ⟨w.heap.size + 1, 0, none⟩)] W (GotN B W b 0 (numM bs most)) := fun W hW hs =>
    num1 w.heap.size (w.heap.size + 1) b most 0 bs W hs hb (BS.below hW) (BM.below hW) (by omega)
  have hB2 : B ≤ ((w.alloc (.cells #[.pointer (some ⟨b, 0, none⟩)] 55)).alloc (.cells #[.int .u64 most] 54)).heap.size := by simp; omega
  cases hr : numM bs most with
  | error x =>
    have hx := numM_err hb hr
    rw [hr] at hst
    have HG := Lib.hid (get64_err (B := B) b _ _ (fun _ _ => rfl) bs x hx _ h2 hB2 _ rfl hst)
    have HAL := Lib.hid hal
    clear hst hal BS BM hz1 hB2 h2 hr hx
    go_enter Try.func35, Try.ntmps35
    go_wp2_with ((with_reducible refine HG.out.mono ?_); rintro e w2 ⟨rfl, hc2, hs2⟩)
    go_ret
    exact Told.error_ rfl ((Chg.of_below HAL.out).trans hc2) hs2
  | ok q =>
    obtain ⟨v, rest⟩ := q
    rw [hr] at hst
    have HG := Lib.hid (get64_ok (B := B) b _ _ (fun _ _ => rfl) bs rest v _ h2 hB2 _ rfl hst)
    have HAL := Lib.hid hal
    clear hst hal BS BM hz1 hB2 h2 hr
    go_enter Try.func35, Try.ntmps35
    go_wp2_with ((with_reducible refine HG.out.mono ?_); rintro e w2 ⟨rfl, hc2, hs2⟩)
    go_ret
    exact Told.ok_ rfl ((Chg.of_below HAL.out).trans hc2) hs2
end Go.Proofs.Ytdnddoiemaifjaa
