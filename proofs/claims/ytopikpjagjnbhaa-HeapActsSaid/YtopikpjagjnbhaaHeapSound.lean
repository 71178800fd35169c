/- A heap that was made is sound. -/
import Derived.Test.YtopikpjagjnbhaaHeapUse
namespace Go.Proofs.Ytopikpjagjnbhaa
open Go.RowKit
def cntV (pl : List Int) (k : Nat) : Nat := ((List.range k).filter fun x => pl.getD x 0 != -1).length
theorem cntV_succ (pl : List Int) (k : Nat) : cntV pl (k + 1) = cntV pl k + if pl.getD k 0 = -1 then 0 else 1 := by
  unfold cntV
  rw [List.range_succ, List.filter_append, List.length_append]
  congr 1
  by_cases h : pl.getD k 0 = -1
  · rw [if_pos h, List.filter_cons_of_neg (by rw [h]; decide)]; rfl
  · rw [if_neg h, List.filter_cons_of_pos (by simpa using h)]; rfl
theorem cntV_le (pl : List Int) (k : Nat) : cntV pl k ≤ k := by
  unfold cntV
  have := List.length_filter_le (fun x => pl.getD x 0 != -1) (List.range k)
  rwa [List.length_range] at this
theorem nodup_sub : ∀ (l1 l2 : List Nat), l1.Nodup → (∀ x ∈ l1, x ∈ l2) → l1.length ≤ l2.length
  | [], _, _, _ => Nat.zero_le _
  | x :: l1, l2, hn, h => by
    have hx := h x List.mem_cons_self
    obtain ⟨h1, h2⟩ := List.nodup_cons.1 hn
    have h3 := nodup_sub l1 (l2.erase x) h2 (fun y hy => (List.mem_erase_of_ne (fun e => h1 (by rw [← e]; exact hy))).2 (h y (List.mem_cons_of_mem _ hy)))
    rw [List.length_erase_of_mem hx] at h3
    have := List.length_pos_of_mem hx
    simp only [List.length_cons]
    omega
theorem cntV_all {n : Nat} {h : HV} (s : Sd n h) : cntV h.pl n = h.ids.length := by
  have hm : ∀ x, x ∈ (List.range n).filter (fun x => h.pl.getD x 0 != -1) ↔ x ∈ h.ids := by
    intro x
    rw [List.mem_filter, List.mem_range, ← has_mem]
    constructor
    · intro ⟨h1, h2⟩
      refine (has_iff s x h1).2 (fun e => ?_)
      rw [List.getD_eq_getElem?_getD, e] at h2
      simp at h2
    · intro h1
      obtain ⟨i, _, _, hp, _⟩ := place_of s h1
      refine ⟨has_lt s h1, ?_⟩
      rw [hp]
      simp
  unfold cntV
  have a1 := nodup_sub _ h.ids (List.nodup_range.filter _) (fun x hx => (hm x).1 hx)
  have a2 := nodup_sub h.ids _ (nodup_ids s) (fun x hx => (hm x).2 hx)
  omega
set_option maxRecDepth 100000 in
set_option maxHeartbeats 8000000 in
theorem hsound {w : World} {b gk gp base n ck cp : Nat} {iv : Value} {h : HV} (H : Hp w b gk gp base n ck cp iv h) (s : Sd n h) (hn : n ≤ 4096) (h0 : 0 < n) :
    Calls Try.prog 18 #[.pointer (some ⟨b, 0, none⟩)] w fun e w' => e = .returned (.bool true) ∧ Below w.heap.size w w' := by
  have HM := Lib.hid (hmade b gp n cp w H.pb.cell h0)
  have HALL := Lib.hid (cntV_all s)
  obtain ⟨A, c, hiv⟩ := own_slice H.io
  have HIV := Lib.hid hiv
  have HH := Lib.hid H
  have k0 := H.pb.cell
  have k1 := H.ib.cell
  rw [hiv] at k1
  clear hiv H
  go_enter Try.func18, Try.ntmps18
  go_wp2_with (go_at_call 30; (with_reducible refine HM.out.mono ?_); rintro e w1 ⟨rfl, rfl⟩)
  go_loopw [3, 14] (fun cc i wr => ∃ k : Nat, k ≤ n ∧ i = .int .i64 k ∧ cc = .int .i64 (cntV h.pl k) ∧ Below w.heap.size w wr) (fun _ i _ => n - (intOf i).toNat)
  case atStart => exact ⟨0, Nat.zero_le _, rfl, rfl, Below.refl _ _⟩
  case round =>
    obtain ⟨k, hk, rfl, rfl, hb⟩ := hrel
    have kk1 := cell_below hb k1
    by_cases hkn : k < n
    · have hkn' : (k : Int) < (n : Int) := by omega
      obtain ⟨q1, _, _⟩ := rowGet (HH.out.below hb).po hkn
      have HS := Lib.hid (cntV_succ h.pl k)
      have hle := cntV_le h.pl k
      have hplk : h.pl[k]? = some (h.pl.getD k 0) := by
        have hl : k < h.pl.length := by rw [s.bij.len]; exact hkn
        rw [List.getElem?_eq_getElem hl]
        simp [List.getD_eq_getElem?_getD, hl]
      generalize h.pl.getD k 0 = p at q1 HS hplk
      by_cases hp : p = -1
      · subst hp
        rw [if_pos rfl, Nat.add_zero] at HS
        generalize hcc : cntV h.pl k = m0 at HS hle
        clear k0 k1 hplk
        go_wp2
        go_roundw
        case rel => exact ⟨k + 1, by omega, by go_num, by rw [HS.out]; rfl, hb⟩
        case measure => simp only [intOf]; omega
      · rw [if_neg hp] at HS
        rcases s.bij.m k p hplk with h1 | ⟨i, rfl, hi⟩
        · exact absurd h1 hp
        · have hil := get_lt hi
          obtain ⟨gi, ci, e1, HSW, n4, hci⟩ := (HH.out.below hb).sw (by omega)
          obtain ⟨q2, _, _⟩ := rowGet HSW.io hil
          rw [zs_getD _ _ hil] at q2
          simp only [get_getD hi] at q2
          have e2 := e1
          rw [HIV.out] at e2
          obtain ⟨rfl, rfl⟩ : A = some ⟨gi, 0, none⟩ ∧ c = ci := by cases e2; exact ⟨rfl, rfl⟩
          have hil' : (i : Int) < (h.ids.length : Int) := by omega
          have hlen := ids_le s
          generalize hcc : cntV h.pl k = m0 at HS hle
          cases i with
          | zero =>
            have hl0 : ¬ ((h.ids.length : Int) ≤ 0) := by omega
            have hl1 : ¬ (h.ids.length = 0) := by omega
            have hl2 : ¬ (h.ids = []) := fun e => by rw [e] at hil; exact absurd hil (by decide)
            clear k0 k1 hplk
            go_wp2
            go_roundw
            case rel => exact ⟨k + 1, by omega, by go_num, by rw [HS.out]; go_num, hb⟩
            case measure => simp only [intOf]; omega
          | succ m =>
            have hol : m / 2 < h.ids.length := by omega
            obtain ⟨q3, _, _⟩ := rowGet HSW.io hol
            rw [zs_getD _ _ hol] at q3
            have hx0 := getD_getH h.ids (m / 2) hol
            have hxd := (s.bij.r _ _ hx0).1
            have hord := (ord_le h.ks (h.ids.getD (m / 2) 0) k).2 (s.ord (m + 1) (h.ids.getD (m / 2) 0) k (by omega) (by rw [show (m + 1 - 1) / 2 = m / 2 by omega]; exact hx0) hi)
            generalize h.ids.getD (m / 2) 0 = x at q3 hxd hord hx0
            have HORD := Lib.hid (horder b gk n ck base h.ks x k wr (HH.out.below hb).kw.kb (HH.out.below hb).kw.ko hxd hkn)
            have hno : ¬ (0 < ordV h.ks x k) := by omega
            generalize ordV h.ks x k = ov at HORD hord hno
            clear k0 k1 hplk
            go_wp2_with (go_at_call 34; (with_reducible refine HORD.out.mono ?_); rintro e w1 ⟨rfl, hb1⟩)
            go_roundw
            case rel => exact ⟨k + 1, by omega, by go_num, by rw [HS.out]; go_num, below_tr hb hb1⟩
            case measure => simp only [intOf]; omega
    · obtain rfl : k = n := by omega
      rw [HALL.out]
      clear k0 k1
      go_wp2
      go_ret
      exact ⟨rfl, hb⟩
end Go.Proofs.Ytopikpjagjnbhaa
