/- The law ReadyCopies, walked. -/
import Derived.Test.YtabdipfpfbdghaaGreatZReaLowers
import Derived.Test.YtabdipfpfbdghaaGreatZRefCopy
namespace Go.Proofs.YtabdipfpfbdghaaGreat
open Go.RowKit
variable {base b g c hb mb mg cm n k : Nat} {w : World} {q : QV} {TT : Nat → Prop}
/-- The copies, behind both. -/
theorem pz_copy {W1 W2 W3 : World} {b' mb' mg' c' : Nat} {now : Int} {rows : List RowQ} (H : QN W1.heap.size n q b' W2) (hb1 : Below W1.heap.size W1 W2) (M : Mq W3 W2.heap.size mb' mg' n c' now rows) (hmg : W2.heap.size ≤ mg') (hb2 : Below W2.heap.size W2 W3) : ∃ g' cc hb' T, Pz W1.heap.size W3 b' g' cc hb' mb' mg' c' n q now rows T := by
  obtain ⟨g', cc, hb', S, Z⟩ := H.qz
  have hlb := M.lb
  have hs := hb1.size
  refine ⟨g', cc, hb', fun k => S k ∨ k = mb' ∨ k = mg', ⟨S, Z.below hb2, fun e => ?_, fun e => ?_, fun _ => Iff.rfl⟩, ⟨M.nb, M.rb, own_mono M.ro hs, M.ne, Nat.le_trans hs M.lb⟩⟩
  · have := Z.lt e
    omega
  · have := Z.lt e
    omega
set_option maxRecDepth 100000 in
set_option maxHeartbeats 4000000 in
theorem rcopies_lives (A : Option Addr) (n c : Nat) (A2 : Option Addr) (m c2 : Nat) (w : World) (h : 100 < n ∨ 100 < m) : Calls Tryz.prog 5 #[.slice A n c, .slice A2 m c2] w fun e w' => e = .returned (.bool true) ∧ Below w.heap.size w w' := by
  have HL := Lib.hid (fun W => lives18 W)
  have HD := Lib.hid (qnew 6 6 rfl w (by omega) (by omega))
  have HR := Lib.hid (fun W => mnew 6 6 rfl W (by omega) (by omega))
  by_cases h1 : 100 < n
  · have h2 : (100 : Int) < (n : Int) := by omega
    clear h
    go_enter Tryz.func5, Tryz.ntmps5
    go_wp2_with (first
      | (go_at_call 6; (with_reducible refine (HL.out _).mono ?_); rintro e w' ⟨rfl, hb⟩)
      | (go_at_call 7; (with_reducible refine HD.out.mono ?_); rintro e w1 ⟨b, g, hb, rfl, hq⟩)
      | (go_at_call 8; (with_reducible refine (HR.out _).mono ?_); rintro e w2 ⟨mb, mg, rfl, hm, hmg, hb2⟩; obtain ⟨T, _, HB⟩ := pz_new hq hb2.out hm.out hmg.out; clear hq hm hmg hb2; have HBB := Lib.hid HB; clear HB))
    go_ret
    exact ⟨rfl, below_then HBB.out HBB.out.size hb⟩
  · have h2 : ¬ (100 : Int) < (n : Int) := by omega
    have h3 : (100 : Int) < (m : Int) := by omega
    clear h
    go_enter Tryz.func5, Tryz.ntmps5
    go_wp2_with (first
      | (go_at_call 6; (with_reducible refine (HL.out _).mono ?_); rintro e w' ⟨rfl, hb⟩)
      | (go_at_call 7; (with_reducible refine HD.out.mono ?_); rintro e w1 ⟨b, g, hb, rfl, hq⟩)
      | (go_at_call 8; (with_reducible refine (HR.out _).mono ?_); rintro e w2 ⟨mb, mg, rfl, hm, hmg, hb2⟩; obtain ⟨T, _, HB⟩ := pz_new hq hb2.out hm.out hmg.out; clear hq hm hmg hb2; have HBB := Lib.hid HB; clear HB))
    go_ret
    exact ⟨rfl, below_then HBB.out HBB.out.size hb⟩
set_option maxRecDepth 100000 in
set_option maxHeartbeats 8000000 in
theorem rcopies_walk (A : Option Addr) (n c : Nat) (l : List Ac3) (A2 : Option Addr) (m c2 : Nat) (l2 : List Ac3) (w : World) (hr : Rds w 3 A n c (acs3 l)) (hr2 : Rds w 3 A2 m c2 (acs3 l2)) (hn : n ≤ 100) (hm : m ≤ 100) : Calls Tryz.prog 5 #[.slice A n c, .slice A2 m c2] w fun e w' => e = .returned (.bool true) ∧ Below w.heap.size w w' := by
  have HM2 : Hid (l2.length = m) := by show _ = _; have := hr2.len; rw [acs3_len] at this; omega
  have HRD2 := Lib.hid hr2
  have h4 : ¬ (100 : Int) < (m : Int) := by omega
  clear hr2
  have HL := Lib.hid (fun W => lives18 W)
  have HN : Hid (l.length = n) := by show _ = _; have := hr.len; rw [acs3_len] at this; omega
  have HD := Lib.hid (qnew 6 6 rfl w (by omega) (by omega))
  have HR := Lib.hid (fun W => mnew 6 6 rfl W (by omega) (by omega))
  have h3 : ¬ (100 : Int) < (n : Int) := by omega
  have HRD := Lib.hid hr
  clear hr
  go_enter Tryz.func5, Tryz.ntmps5
  go_wp2_with (first
    | (go_at_call 7; (with_reducible refine HD.out.mono ?_); rintro e w1 ⟨b, g, hb, rfl, hq⟩)
    | (go_at_call 8; (with_reducible refine (HR.out _).mono ?_); rintro e w2 ⟨mb, mg, rfl, hm, hmg, hb2⟩; obtain ⟨T0, hp, hB⟩ := pz_new hq hb2.out hm.out hmg.out; have HP0 := Lib.hid hp; have HB0 := Lib.hid hB; clear hq hm hmg hb2 hp hB))
  obtain ⟨base, hbase⟩ : ∃ x, x = w.heap.size := ⟨_, rfl⟩
  rw [← hbase] at HP0
  have HBS := Lib.hid hbase
  clear hbase HD HR
  go_loopw [35] (fun i wr => ∃ (k : Nat) (q : QV) (T : Nat → Prop), k ≤ n ∧ i = .int .i64 k ∧ Hid (Pz base wr b g 6 hb mb mg 6 6 q q.now q.rows T) ∧ Hid (QJ 6 q k) ∧ Hid (Below base w wr)) (fun i _ => n - (intOf i).toNat)
  case atStart => exact ⟨0, newR 6, T0, Nat.zero_le _, rfl, HP0, Lib.hid (QJ.new 6), Lib.hid (by rw [HBS.out]; exact HB0.out)⟩
  case round =>
    obtain ⟨k, q, T, hk, rfl, HP, HJ, HB⟩ := hrel
    clear HP0 HB0
    by_cases hlt : k < n
    · have hkx : k < l.length := by rw [HN.out]; exact hlt
      obtain ⟨ad, rfl⟩ := HRD.out.some_ (by omega)
      obtain ⟨h0, h1, h2⟩ := ac3_read (HRD.out.below (by rw [← HBS.out]; exact HB.out)) k l[k] (List.getElem?_eq_getElem hkx)
      generalize l[k] = y at h0 h1 h2
      obtain ⟨kd, id, tk⟩ := y
      simp only at h0 h1 h2
      have hlt' : (k : Int) < (n : Int) := by omega
      have HA := Lib.hid (fun W (P2 : Pz base W b g 6 hb mb mg 6 6 q q.now q.rows T) => actK P2 HJ.out (by omega) (by omega) (by omega) kd id tk)
      unfold ac18 AQ at HA
      have hal : Below wr.heap.size wr (wr.alloc (.cells #[.int .i64 kd, .int .i64 id, .int .i64 tk] (29 : Nat))) := below_al (Below.refl _ _) _
      have HP5 := Lib.hid (HP.out.below hal)
      have HB5 := Lib.hid (below_then HB.out HP.out.size hal)
      clear hal
      go_wp2_with (go_at_call 9; (with_reducible refine (HA.out _ HP5.out).mono ?_); rintro e w1 ⟨rfl, q', T', hp', hst, hj⟩; have HP6 := Lib.hid hp'; have HJ6 := Lib.hid hj; have HB6 := Lib.hid (stq_below HP5.out HB5.out hst); clear hp' hst hj HA HP5 HB5)
      go_roundw
      case rel => exact ⟨k + 1, q', T', by omega, by go_num, HP6, HJ6, HB6⟩
      case measure => simp only [intOf]; omega
    · obtain rfl : n = k := by omega
      have hlt' : ¬ (n : Int) < (n : Int) := by omega
      obtain ⟨W1, rfl⟩ : ∃ x, x = wr := ⟨_, rfl⟩
      have HBW : Hid (Below w.heap.size w W1) := Lib.hid (by have h := HB.out; rw [HBS.out] at h; exact h)
      have HC := Lib.hid (HP.out.copy (by omega) (by omega))
      have HCM := Lib.hid (fun W (P2 : Pz base W b g 6 hb mb mg 6 6 q q.now q.rows T) => mcopy P2.mq (by omega) (by omega))
      obtain ⟨N0, hN0⟩ : ∃ x, x = W1.heap.size := ⟨_, rfl⟩
      have HTN : Hid (∀ k, T k → k < N0) := Lib.hid (fun k h => by rw [hN0]; exact HP.out.lt h)
      have HNW : Hid (w.heap.size ≤ N0) := Lib.hid (by rw [hN0]; exact HBW.out.size)
      have HN0 := Lib.hid hN0
      clear hN0
      go_wp2_with (first
        | (go_at_call 11; (with_reducible refine HC.out.mono ?_); rintro e w1 ⟨b', rfl, hqn, hb1⟩; have HQN := Lib.hid hqn.out; have HB1 := Lib.hid hb1.out; have HP1 := Lib.hid (HP.out.below hb1.out); clear hqn hb1 HC)
        | (go_at_call 20; (with_reducible refine (HCM.out _ HP1.out).mono ?_); rintro e w2 ⟨mb', mg', c', rfl, hm1, hm2, hb2⟩; obtain ⟨g', cc, hb', T2, hp2⟩ := pz_copy HQN.out HB1.out hm1.out hm2.out hb2.out; have HPC := Lib.hid hp2; have HP2 := Lib.hid (HP1.out.below hb2.out); have HB2 := Lib.hid (below_then (below_then HBW.out HBW.out.size HB1.out) (Nat.le_trans HBW.out.size HB1.out.size) hb2.out); clear hm1 hm2 hb2 hp2 HB1 HQN HP1 HCM)
        | (go_at_call 9; fail))
      rw [← HN0.out] at HPC
      obtain ⟨W2, rfl⟩ : ∃ x, x = w2 := ⟨_, rfl⟩
      clear HP HB HBW HN0
      go_loopw [50] (fun i wr => ∃ (k : Nat) (q2 : QV) (T2 : Nat → Prop), k ≤ m ∧ i = .int .i64 k ∧ Hid (Pz base wr b g 6 hb mb mg 6 6 q q.now q.rows T) ∧ Hid (Pz N0 wr b' g' cc hb' mb' mg' c' 6 q2 q2.now q2.rows T2) ∧ Hid (QJ 6 q2 (n + k)) ∧ Hid (Below w.heap.size w wr)) (fun i _ => m - (intOf i).toNat)
      case atStart => exact ⟨0, q, T2, Nat.zero_le _, rfl, HP2, HPC, HJ, HB2⟩
      case round =>
        obtain ⟨k, q2, T2', hk2, rfl, HP, HPC2, HJ2, HB⟩ := hrel
        clear HP2 HPC HB2
        by_cases hlt2 : k < m
        · have hkx : k < l2.length := by rw [HM2.out]; exact hlt2
          obtain ⟨ad, rfl⟩ := HRD2.out.some_ (by omega)
          obtain ⟨h0, h1, h2⟩ := ac3_read (HRD2.out.below HB.out) k l2[k] (List.getElem?_eq_getElem hkx)
          generalize l2[k] = y at h0 h1 h2
          obtain ⟨kd, id, tk⟩ := y
          simp only at h0 h1 h2
          have hlt2' : (k : Int) < (m : Int) := by omega
          have HA := Lib.hid (fun W (P2 : Pz N0 W b' g' cc hb' mb' mg' c' 6 q2 q2.now q2.rows T2') => actK P2 HJ2.out (by omega) (by omega) (by omega) kd id tk)
          unfold ac18 AQ at HA
          have hal : Below wr.heap.size wr (wr.alloc (.cells #[.int .i64 kd, .int .i64 id, .int .i64 tk] (29 : Nat))) := below_al (Below.refl _ _) _
          have HP5 := Lib.hid (HP.out.below hal)
          have HPC5 := Lib.hid (HPC2.out.below hal)
          have HB5 := Lib.hid (below_then HB.out HB.out.size hal)
          clear hal
          go_wp2_with (go_at_call 9; (with_reducible refine (HA.out _ HPC5.out).mono ?_); rintro e w1 ⟨rfl, q3, T3, hp', hst, hj⟩; have HPC6 := Lib.hid hp'; have HJ6 := Lib.hid hj; have HP6 := Lib.hid (HP5.out.keep hst.1 (fun k h1 h2 => by have h3 := HTN.out k h1; have h4 := HPC5.out.ge h2; omega)); have HB6 := Lib.hid (hst.1.toBelow HB5.out HB5.out.size (fun k h => by have h3 := HPC5.out.ge h; have h4 := HNW.out; omega)); clear hp' hst hj HA HP5 HB5 HPC5)
          go_roundw
          case rel => exact ⟨k + 1, q3, T3, by omega, by go_num, HP6, HPC6, HJ6, HB6⟩
          case measure => simp only [intOf]; omega
        · obtain rfl : m = k := by omega
          have hlt2' : ¬ (m : Int) < (m : Int) := by omega
          obtain ⟨W3, rfl⟩ : ∃ x, x = wr := ⟨_, rfl⟩
          have HAL1 := Lib.hid (fun W z (P2 : Pz base W b g 6 hb mb mg 6 6 q q.now q.rows T) => alikeP P2 HJ.out (by omega) (by omega) (by omega) z)
          have HAL2 := Lib.hid (fun W z (P2 : Pz N0 W b' g' cc hb' mb' mg' c' 6 q2 q2.now q2.rows T2') => alikeP P2 HJ2.out (by omega) (by omega) (by omega) z)
          go_wp2
          go_loopw [13] (fun i wr => ∃ (j : Nat), j ≤ 6 ∧ i = .int .i64 j ∧ Hid (Pz base wr b g 6 hb mb mg 6 6 q q.now q.rows T) ∧ Hid (Pz N0 wr b' g' cc hb' mb' mg' c' 6 q2 q2.now q2.rows T2') ∧ Hid (Below w.heap.size w wr)) (fun i _ => 6 - (intOf i).toNat)
          case atStart => exact ⟨0, by omega, rfl, HP, HPC2, HB⟩
          case round =>
            obtain ⟨j, hj, rfl, HPx, HPy, HBx⟩ := hrel
            clear HP HPC2 HB
            by_cases hj6 : j < 6
            · have hj6' : (j : Int) < 6 := by omega
              go_wp2_with (first
                | (go_at_call 10; (with_reducible refine (HAL1.out _ _ HPx.out).mono ?_); rintro e w3 ⟨rfl, hb3⟩; have HPx3 := Lib.hid (HPx.out.below hb3); have HPy3 := Lib.hid (HPy.out.below hb3); have HB3 := Lib.hid (below_then HBx.out HBx.out.size hb3); clear hb3)
                | (go_at_call 10; (with_reducible refine (HAL2.out _ _ HPy3.out).mono ?_); rintro e w4 ⟨rfl, hb4⟩; have HPx4 := Lib.hid (HPx3.out.below hb4); have HPy4 := Lib.hid (HPy3.out.below hb4); have HB4 := Lib.hid (below_then HB3.out HB3.out.size hb4); clear hb4))
              go_roundw
              case rel => exact ⟨j + 1, by omega, by go_num, HPx4, HPy4, HB4⟩
              case measure => simp only [intOf]; omega
            · obtain rfl : j = 6 := by omega
              go_wp2_with (go_at_call 6; (with_reducible refine (HL.out _).mono ?_); rintro e w' ⟨rfl, hb⟩)
              go_ret
              exact ⟨rfl, below_then HBx.out HBx.out.size hb⟩
end Go.Proofs.YtabdipfpfbdghaaGreat
