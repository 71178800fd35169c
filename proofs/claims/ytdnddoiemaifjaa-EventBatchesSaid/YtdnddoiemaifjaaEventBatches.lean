/- The law EventBatches, walked. -/
import Derived.Test.YtdnddoiemaifjaaBatch
import Derived.Test.YtdnddoiemaifjaaBytes14
namespace Go.Proofs.Ytdnddoiemaifjaa
open Go.RowKit
theorem batchN_facts (L : List Ev) (n : Nat) (hL : 0 < L.length) (hn : 1 ≤ n) : ∃ M, batchN L n = M + 1 ∧ M + 1 ≤ n ∧ M + 1 ≤ L.length ∧ (∀ j (_ : j < M) (h2 : j < L.length), pre L[j] = false) ∧ (M + 1 < n → M + 1 < L.length → ∀ h : M < L.length, pre L[M] = true) := by
  obtain ⟨k, hk⟩ : ∃ k, k = min L.length n := ⟨_, rfl⟩
  have hlk : (L.take k).length = k := by rw [List.length_take]; omega
  cases h : (L.take k).findIdx? pre with
  | none =>
    have hi : idxP pre (L.take k) = -1 := by unfold idxP; rw [h]
    rw [batchN_none hk hi]
    have h0 := List.findIdx?_eq_none_iff.1 h
    refine ⟨k - 1, by omega, by omega, by omega, fun j hj h2 => ?_, fun h1 h2 => by omega⟩
    have := h0 ((L.take k)[j]'(by omega)) (List.getElem_mem _)
    rwa [List.getElem_take] at this
  | some i =>
    have hi : idxP pre (L.take k) = (i : Nat) := by unfold idxP; rw [h]
    rw [batchN_some hk hi]
    rw [List.findIdx?_eq_some_iff_getElem] at h
    obtain ⟨hik, hp, hj⟩ := h
    rw [hlk] at hik
    rw [List.getElem_take] at hp
    refine ⟨i, rfl, by omega, by omega, fun j hj1 h2 => ?_, fun _ _ _ => hp⟩
    have := hj j hj1
    rw [List.getElem_take] at this
    simpa using this
def lenOf : Value → Nat
  | .slice _ n _ => n
  | _ => 0
theorem batches_lives (A : Option Addr) (m c : Nat) (q : Int) (w : World) (h : 60 < m) :
    Calls Try.prog 3 #[.slice A m c, .int .u8 q] w fun e w' => e = .returned (.bool true) ∧ Below w.heap.size w w' := by
  have HL := Lib.hid (fun W => lives14 W)
  have d1 : (60 : Int) < m := by omega
  go_enter Try.func3, Try.ntmps3
  go_wp2_with (go_at_call 7; (with_reducible refine (HL.out _).mono ?_); rintro e w1 ⟨rfl, hb1⟩)
  go_ret
  exact ⟨rfl, hb1⟩
set_option maxRecDepth 100000 in
set_option maxHeartbeats 8000000 in
theorem batches_walk (A : Option Addr) (m c : Nat) (l : List Ev) (q : Int) (w : World) (hr : Rds w 15 A m c (evs l)) (h1 : m ≤ 60) (hq : 0 ≤ q ∧ q ≤ 255) :
    Calls Try.prog 3 #[.slice A m c, .int .u8 q] w fun e w' => e = .returned (.bool true) ∧ Below w.heap.size w w' := by
  have HL := Lib.hid (fun W => lives14 W)
  have HN := Lib.hid (evs_len hr)
  have HR := Lib.hid hr
  have hmc := hr.le
  obtain ⟨n, hn⟩ : ∃ n : Nat, 1 + q % 10 = n := ⟨(1 + q % 10).toNat, by omega⟩
  have hn1 : 1 ≤ n ∧ n ≤ 10 := by omega
  have HQ := Lib.hid hn
  obtain ⟨q0, q1⟩ := hq
  go_enter Try.func3, Try.ntmps3
  go_wp2
  go_loopw [6, 7] (fun v r wr => ∃ d n1 c1 : Nat, ∃ B, d + n1 = m ∧ r = .slice B n1 c1 ∧ wr.ownsRow w.heap.size 30 15 v d (evs (l.take d)) ∧ Rds w 15 B n1 c1 (evs (l.drop d)) ∧ Below w.heap.size w wr) (fun _ r _ => lenOf r)
  case atStart => exact ⟨0, m, c, A, by omega, rfl, by simpa [evs] using World.ownsRow_nil w _ _ _, by simpa using HR.out, Below.refl _ _⟩
  case round =>
    obtain ⟨d, n1, c1, B, hdn, rfl, ho, hrr0, hb⟩ := hrel
    obtain ⟨W1, rfl⟩ : ∃ x, x = wr := ⟨_, rfl⟩
    have hrr := hrr0.below hb
    by_cases hpos : 0 < n1
    · have hlen : (l.drop d).length = n1 := evs_len hrr
      obtain ⟨ad, rfl⟩ := hrr.some_ hpos
      obtain ⟨M, hM, hMn, hML, hpre, hlast⟩ := batchN_facts (l.drop d) n (by omega) hn1.1
      rw [hlen] at hML
      have hlast : M + 1 < n → M + 1 < n1 → ∀ h : M < (l.drop d).length, pre (l.drop d)[M] = true := fun a b => hlast a (by rw [hlen]; exact b)
      have HPRE := Lib.hid hpre
      have HLAST := Lib.hid hlast
      have HLEN := Lib.hid hlen
      have HB := Lib.hid (sbatch ad n1 c1 (l.drop d) n W1 hrr hn1.1 (by omega))
      rw [hM] at HB
      have hr1 := rds_one hrr hML
      have hr2 := rds_rest hrr0 hML
      have hcc := hrr.le
      obtain ⟨A5, hA5⟩ : ∃ A5 : Addr, (if c1 = M + 1 then ad else ad.add ((M + 1) * 15)) = A5 := ⟨_, rfl⟩
      obtain ⟨n2, hn2⟩ : ∃ n2, n2 = n1 - (M + 1) := ⟨_, rfl⟩
      obtain ⟨c2, hc2⟩ : ∃ c2, c2 = c1 - (M + 1) := ⟨_, rfl⟩
      rw [hA5] at HB hr2
      rw [← hn2, ← hc2] at HB hr2
      have HN2 := Lib.hid hn2
      have HC2 := Lib.hid hc2
      clear hA5 hpre hlast hlen hM hn2 hc2
      have t1 : (M : Int) + 1 ≤ n := by omega
      have t2 : ((M : Int) + 1 == 0) = false := by simp; omega
      obtain ⟨A6, c6, hA6⟩ := own_slice ho
      subst hA6
      have hd2 : (d : Int) ≤ m := by omega
      go_wp2_with (go_at_call 8; (with_reducible refine HB.out.mono ?_); rintro e W2 ⟨rfl, hb2⟩)
      have hMM : (0 : Int) ≤ (M : Int) ∧ (M : Int) ≤ (M : Int) + 1 := by omega
      go_loopw [51] (fun kv wr => ∃ k : Nat, k ≤ M ∧ kv = .int .i64 k ∧ Below W2.heap.size W2 wr) (fun kv _ => M - (intOf kv).toNat)
      case atStart => exact ⟨0, Nat.zero_le _, rfl, Below.refl _ _⟩
      case round =>
        obtain ⟨k, hk, rfl, hb3⟩ := hrel
        obtain ⟨W3, rfl⟩ : ∃ x, x = wr := ⟨_, rfl⟩
        have hb23 := below_tr hb2 hb3
        by_cases hlt : k < M
        · have hkx : k < (l.drop d).length := by rw [HLEN.out]; omega
          have hp := HPRE.out k hlt hkx
          have ha := ev_read (hrr.below hb23) k (l.drop d)[k] (List.getElem?_eq_getElem hkx)
          generalize (l.drop d)[k] = y at ha hp
          obtain ⟨e0, e1, e2, e3, e4, e5, e6, e7, e8, e9, e10, e11, e12, e13, e14⟩ := y
          have hz : (e0 == 2) = false := by simpa [pre] using hp
          obtain ⟨z0, z1, z2, z3, z4, z5, z6, z7, z8, z9, z10, z11, z12, z13, z14⟩ := ha
          simp only at z0 z1 z2 z3 z4 z5 z6 z7 z8 z9 z10 z11 z12 z13 z14
          have hk1 : (k : Int) < M + 1 := by omega
          clear hp
          go_wp2
          go_roundw
          case rel => exact ⟨k + 1, by omega, by go_num, below_al hb3 _⟩
          case measure => simp only [intOf]; omega
        · obtain rfl : k = M := by omega
          have HR3 : Hid (Rds W3 15 (some ad) (k + 1) (k + 1) (evs ((l.drop d).take (k + 1)))) := hr1.below hb23
          have HO3 : Hid (W3.ownsRow w.heap.size 30 15 (.slice A6 d c6) d (evs (l.take d))) := own_below ho hb23
          have HB3 : Hid (Below w.heap.size w W3) := below_then hb hb.size hb23
          have HTK : Hid (evs (l.take d) ++ evs ((l.drop d).take (k + 1)) = evs (l.take (d + (k + 1)))) := by
            show _ = _
            rw [← evs_append, ← List.take_add]
          have HDN : Hid (d + (k + 1) + n2 = m) := by have := HN2.out; show _ = _; omega
          have HR4 : Hid (Rds w 15 (some A5) n2 c2 (evs (l.drop (d + (k + 1))))) := by
            have h := hr2
            rw [List.drop_drop] at h
            exact h
          have hkx : k < (l.drop d).length := by rw [HLEN.out]; omega
          have hzc := (ev_read (hrr.below hb23) k (l.drop d)[k] (List.getElem?_eq_getElem hkx)).c0
          by_cases hc1 : k + 1 < n
          · by_cases hc2 : 0 < n2
            · have hp := HLAST.out hc1 (by have := HN2.out; omega) hkx
              have hk2 : (l.drop d)[k].kind = 2 := by simpa [pre] using hp
              rw [hk2] at hzc
              have t3 : (k : Int) + 1 < n := by omega
              have t4 : (0 : Int) < n2 := by omega
              have t5 : (k : Int) < k + 1 := by omega
              clear hp hk2 hr1 hr2 ho hb2 hb3 hb23
              go_wp2_with (at_builtin; (refine apn (w0 := w) w.heap.size (by rfl) _ _ 22 30 _ 15 120 (by rfl) Try.underlying22 info_ev (by rfl) (by decide) (by decide) _ d (evs (l.take d)) (some ad) (k + 1) (k + 1) _ (by rfl) (by rfl) HR3.out (evs_one _) HO3.out HB3.out HB3.out.size (by omega) ?_); intro v4 w4 ho4 hb4 _ _)
              go_roundw
              case rel => exact ⟨d + (k + 1), n2, c2, some A5, HDN.out, rfl, by rw [HTK.out] at ho4; exact ho4, HR4.out, hb4⟩
              case measure => simp only [lenOf]; have := HDN.out; omega
            · obtain rfl : n2 = 0 := by omega
              have t3 : (k : Int) + 1 < n := by omega
              clear hzc hr1 hr2 ho hb2 hb3 hb23
              go_wp2_with (at_builtin; (refine apn (w0 := w) w.heap.size (by rfl) _ _ 22 30 _ 15 120 (by rfl) Try.underlying22 info_ev (by rfl) (by decide) (by decide) _ d (evs (l.take d)) (some ad) (k + 1) (k + 1) _ (by rfl) (by rfl) HR3.out (evs_one _) HO3.out HB3.out HB3.out.size (by omega) ?_); intro v4 w4 ho4 hb4 _ _)
              go_roundw
              case rel => exact ⟨d + (k + 1), 0, c2, some A5, HDN.out, rfl, by rw [HTK.out] at ho4; exact ho4, HR4.out, hb4⟩
              case measure => simp only [lenOf]; have := HDN.out; omega
          · have t3 : ¬ (k : Int) + 1 < n := by omega
            clear hzc hr1 hr2 ho hb2 hb3 hb23
            go_wp2_with (at_builtin; (refine apn (w0 := w) w.heap.size (by rfl) _ _ 22 30 _ 15 120 (by rfl) Try.underlying22 info_ev (by rfl) (by decide) (by decide) _ d (evs (l.take d)) (some ad) (k + 1) (k + 1) _ (by rfl) (by rfl) HR3.out (evs_one _) HO3.out HB3.out HB3.out.size (by omega) ?_); intro v4 w4 ho4 hb4 _ _)
            go_roundw
            case rel => exact ⟨d + (k + 1), n2, c2, some A5, HDN.out, rfl, by rw [HTK.out] at ho4; exact ho4, HR4.out, hb4⟩
            case measure => simp only [lenOf]; have := HDN.out; omega
    · obtain rfl : n1 = 0 := by omega
      have hdm : d = m := by omega
      subst hdm
      rw [List.take_of_length_le (by rw [HN.out]; exact Nat.le_refl _)] at ho
      obtain ⟨A6, c6, hA6⟩ := own_slice ho
      subst hA6
      have HS := Lib.hid (ssame_eq A6 A d c6 c l W1 (own_rds' ho).2 (HR.out.below hb))
      go_wp2_with (first
        | (go_at_call 9; (with_reducible refine HS.out.mono ?_); rintro e w4 ⟨rfl, hb4⟩)
        | (go_at_call 7; (with_reducible refine (HL.out _).mono ?_); rintro e w5 ⟨rfl, hb5⟩))
      go_ret
      exact ⟨rfl, below_then hb hb.size (below_tr hb4 hb5)⟩
end Go.Proofs.Ytdnddoiemaifjaa
