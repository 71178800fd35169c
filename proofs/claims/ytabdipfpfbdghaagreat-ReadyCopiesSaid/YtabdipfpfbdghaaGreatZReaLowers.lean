/- The law ReadyLowers, walked. -/
import Derived.Test.YtabdipfpfbdghaaGreatZReaCopy
namespace Go.Proofs.YtabdipfpfbdghaaGreat
open Go.RowKit
variable {base b g c hb mb mg cm n k : Nat} {w : World} {q : QV} {TT : Nat → Prop}
theorem QN.qz {B b' : Nat} (H : QN B n q b' w) : ∃ g c hb S, QZ B w b' g c hb n q S := by
  obtain ⟨g, c, hb, gk, gp, ck, cp, iv, H⟩ := H
  exact ⟨g, c, hb, fun k => k = b' ∨ k = g ∨ HS hb gk gp iv k, gk, gp, ck, cp, iv, H, fun _ => Iff.rfl⟩
theorem QZ.below {S : Nat → Prop} {w' : World} (Q : QZ base w b g c hb n q S) (h : Below w.heap.size w w') : QZ base w' b g c hb n q S := Q.keep (T := fun _ => False) (Chg.of_below h) (fun _ _ h => h)
theorem Pz.copy {now : Int} {rows : List RowQ} (P : Pz base w b g c hb mb mg cm n q now rows TT) (h0 : 0 < n) (hn : n ≤ 4096) :
    Calls Tryz.prog 11 #[.pointer (some ⟨b, 0, none⟩)] w fun e w' => ∃ b', e = .returned (.pointer (some ⟨b', 0, none⟩)) ∧ Hid (QN w.heap.size n q b' w') ∧ Hid (Below w.heap.size w w') := by
  obtain ⟨K, Q, _⟩ := P.code
  exact qcopy Q h0 hn
theorem lower_waits (J : QJ n q k) : byKeys (lowR q).h.ks (lowR q).h.ids = byKeys q.h.ks q.h.ids := by
  refine byKeys_uniq' ((byKeys_perm' _ _).trans (List.Perm.refl _)) ?_
  refine (byKeys_ord' (lowR q).h.ks (lowR q).h.ids).imp_of_mem (fun {a b} ha hb h => ?_)
  have e : ∀ y, y ∈ byKeys (lowR q).h.ks (lowR q).h.ids → (lowR q).h.ks.getD y 0 = q.h.ks.getD y 0 - q.now := fun y hy =>
    lowerV_key J.i.sd q.now (show y ∈ q.h.ids from (byKeys_perm' (lowR q).h.ks (lowR q).h.ids).mem_iff.1 hy)
  unfold leK at *
  rw [e a ha, e b hb] at h
  omega
/-- A queue and its copy, apart. -/
structure TwoQ (base : Nat) (w : World) (b g c hb b' g' c' hb' n : Nat) (q q' : QV) : Prop where
  a : ∃ S, QZ base w b g c hb n q S
  b : ∃ S, QZ base w b' g' c' hb' n q' S
theorem TwoQ.below {b' g' c' hb' : Nat} {q' : QV} {w' : World} (D : TwoQ base w b g c hb b' g' c' hb' n q q') (h : Below w.heap.size w w') : TwoQ base w' b g c hb b' g' c' hb' n q q' := by
  obtain ⟨⟨S, h1⟩, S', h2⟩ := D
  exact ⟨⟨S, h1.below h⟩, S', h2.below h⟩
theorem QZ.mono {S : Nat → Prop} {base' : Nat} (Q : QZ base w b g c hb n q S) (h : base' ≤ base) : QZ base' w b g c hb n q S := by
  obtain ⟨gk, gp, ck, cp, iv, H, h7⟩ := Q
  exact ⟨gk, gp, ck, cp, iv, ⟨H.nb, H.rb, H.hx, own_mono H.ro h, ⟨H.hp.ib, own_mono H.hp.io h, ⟨H.hp.kw.kb, own_mono H.hp.kw.ko h⟩, H.hp.pb, own_mono H.hp.po h, H.hp.n2, H.hp.n5, H.hp.n6, H.hp.ni⟩, H.sd, H.ne, H.ni, by have := H.lb; omega, by have := H.lh; omega⟩, h7⟩
/-- A copy is lowered. -/
theorem two_lower {b' g' c' hb' : Nat} {w1 : World} {now : Int} {rows : List RowQ} {S : Nat → Prop} (P : Pz base w b g c hb mb mg cm n q now rows TT) (hb1 : Below w.heap.size w w1) (Z : QZ w.heap.size w1 b' g' c' hb' n q S) (J : QJ n q k) (hk : k ≤ 1000) (h0 : 0 < n) (hn : n ≤ 4096) :
    Calls Tryz.prog 12 #[.pointer (some ⟨b', 0, none⟩)] w1 fun e w' => e = .returned (.int .i64 q.now) ∧ Hid (TwoQ base w' b g c hb b' g' c' hb' n q (lowR q)) ∧ Hid (Below w.heap.size w w') := by
  refine (qlower Z.qx J.i hn h0 (J.nowI hk).2.2 (fun x hx => J.psI hk hx)).mono ?_
  rintro e w' ⟨he, h1⟩
  obtain ⟨S', z1, z2⟩ := h1.out.qz
  obtain ⟨S0, p1, _⟩ := (P.below hb1).ex
  obtain ⟨S0', p1', _⟩ := P.ex
  have hlt : ∀ k, TT k → k < w.heap.size := fun k h => P.lt h
  obtain ⟨SS, q1, q2, q3, q4⟩ := P.ex
  exact ⟨he, Lib.hid ⟨⟨SS, (q1.below hb1).keep z2.1 (fun k hk1 hk2 => by have h5 := q1.lt hk1; have h6 := Z.ge hk2; omega)⟩, S', z1.mono P.size⟩, Lib.hid (z2.1.toBelow hb1 hb1.size (fun k h => Z.ge h))⟩
theorem rowN_in {x : Nat} (hx : x < n) : rowN n q (x : Int) = q.rows.getD x row0 := by
  unfold rowN rowZ
  rw [if_pos (by unfold inZ; omega)]
  simp
theorem rowN_low {x : Nat} (J : QJ n q k) (hx : x < n) : rowN n (lowR q) (x : Int) = lowOne q.now (q.rows.getD x row0) := by
  rw [rowN_in hx]
  exact lowRows_get J hx
set_option maxRecDepth 100000 in
set_option maxHeartbeats 4000000 in
theorem rlowers_lives (A : Option Addr) (n c : Nat) (w : World) (h : 100 < n) : Calls Tryz.prog 4 #[.slice A n c] w fun e w' => e = .returned (.bool true) ∧ Below w.heap.size w w' := by
  have HL := Lib.hid (fun W => lives18 W)
  have h2 : (100 : Int) < (n : Int) := by omega
  have HD := Lib.hid (qnew 8 8 rfl w (by omega) (by omega))
  have HR := Lib.hid (fun W => mnew 8 8 rfl W (by omega) (by omega))
  clear h
  go_enter Tryz.func4, Tryz.ntmps4
  go_wp2_with (first
    | (go_at_call 6; (with_reducible refine (HL.out _).mono ?_); rintro e w' ⟨rfl, hb⟩)
    | (go_at_call 7; (with_reducible refine HD.out.mono ?_); rintro e w1 ⟨b, g, hb, rfl, hq⟩)
    | (go_at_call 8; (with_reducible refine (HR.out _).mono ?_); rintro e w2 ⟨mb, mg, rfl, hm, hmg, hb2⟩; obtain ⟨T, _, HB⟩ := pz_new hq hb2.out hm.out hmg.out; clear hq hm hmg hb2; have HBB := Lib.hid HB; clear HB))
  go_ret
  exact ⟨rfl, below_then HBB.out HBB.out.size hb⟩
set_option maxRecDepth 100000 in
set_option maxHeartbeats 8000000 in
theorem rlowers_walk (A : Option Addr) (n c : Nat) (l : List Ac3) (w : World) (hr : Rds w 3 A n c (acs3 l)) (hn : n ≤ 100) : Calls Tryz.prog 4 #[.slice A n c] w fun e w' => e = .returned (.bool true) ∧ Below w.heap.size w w' := by
  have HL := Lib.hid (fun W => lives18 W)
  have HN : Hid (l.length = n) := by show _ = _; have := hr.len; rw [acs3_len] at this; omega
  have HD := Lib.hid (qnew 8 8 rfl w (by omega) (by omega))
  have HR := Lib.hid (fun W => mnew 8 8 rfl W (by omega) (by omega))
  have h3 : ¬ (100 : Int) < (n : Int) := by omega
  have HRD := Lib.hid hr
  clear hr
  go_enter Tryz.func4, Tryz.ntmps4
  go_wp2_with (first
    | (go_at_call 7; (with_reducible refine HD.out.mono ?_); rintro e w1 ⟨b, g, hb, rfl, hq⟩)
    | (go_at_call 8; (with_reducible refine (HR.out _).mono ?_); rintro e w2 ⟨mb, mg, rfl, hm, hmg, hb2⟩; obtain ⟨T0, hp, hB⟩ := pz_new hq hb2.out hm.out hmg.out; have HP0 := Lib.hid hp; have HB0 := Lib.hid hB; clear hq hm hmg hb2 hp hB))
  obtain ⟨base, hbase⟩ : ∃ x, x = w.heap.size := ⟨_, rfl⟩
  rw [← hbase] at HP0
  have HBS := Lib.hid hbase
  clear hbase HD HR
  go_loopw [30] (fun i wr => ∃ (k : Nat) (q : QV) (T : Nat → Prop), k ≤ n ∧ i = .int .i64 k ∧ Hid (Pz base wr b g 8 hb mb mg 8 8 q q.now q.rows T) ∧ Hid (QJ 8 q k) ∧ Hid (Below base w wr)) (fun i _ => n - (intOf i).toNat)
  case atStart => exact ⟨0, newR 8, T0, Nat.zero_le _, rfl, HP0, Lib.hid (QJ.new 8), Lib.hid (by rw [HBS.out]; exact HB0.out)⟩
  case round =>
    obtain ⟨k, q, T, hk, rfl, HP, HJ, HB⟩ := hrel
    clear HP0 HB0
    by_cases hlt : k < n
    · have hkx : k < l.length := by rw [HN.out]; exact hlt
      obtain ⟨ad, rfl⟩ := HRD.out.some_ (by omega)
      obtain ⟨h0, h1, h2⟩ := ac3_read (HRD.out.below (by rw [← HBS.out]; exact HB.out)) k l[k] (List.getElem?_eq_getElem hkx)
      generalize l[k] = y at h0 h1 h2
      obtain ⟨kd, id, tk⟩ := y
      simp only at h0 h1 h2
      have hlt' : (k : Int) < (n : Int) := by omega
      have HA := Lib.hid (fun W (P2 : Pz base W b g 8 hb mb mg 8 8 q q.now q.rows T) => actK P2 HJ.out (by omega) (by omega) (by omega) kd id tk)
      unfold ac18 AQ at HA
      have hal : Below wr.heap.size wr (wr.alloc (.cells #[.int .i64 kd, .int .i64 id, .int .i64 tk] (29 : Nat))) := below_al (Below.refl _ _) _
      have HP5 := Lib.hid (HP.out.below hal)
      have HB5 := Lib.hid (below_then HB.out HP.out.size hal)
      clear hal
      go_wp2_with (go_at_call 9; (with_reducible refine (HA.out _ HP5.out).mono ?_); rintro e w1 ⟨rfl, q', T', hp', hst, hj⟩; have HP6 := Lib.hid hp'; have HJ6 := Lib.hid hj; have HB6 := Lib.hid (stq_below HP5.out HB5.out hst); clear hp' hst hj HA HP5 HB5)
      go_roundw
      case rel => exact ⟨k + 1, q', T', by omega, by go_num, HP6, HJ6, HB6⟩
      case measure => simp only [intOf]; omega
    · obtain rfl : n = k := by omega
      have hlt' : ¬ (n : Int) < (n : Int) := by omega
      obtain ⟨W1, rfl⟩ : ∃ x, x = wr := ⟨_, rfl⟩
      have HBW : Hid (Below w.heap.size w W1) := Lib.hid (by have h := HB.out; rw [HBS.out] at h; exact h)
      have HC := Lib.hid (HP.out.copy (by omega) (by omega))
      have HLOW := Lib.hid (fun (b' g' c' hb' : Nat) (w1 : World) (S : Nat → Prop) (hb1 : Below W1.heap.size W1 w1) (Z : QZ W1.heap.size w1 b' g' c' hb' 8 q S) => two_lower HP.out hb1 Z HJ.out (by omega) (by omega) (by omega))
      have HJL := Lib.hid (HJ.out.lower (by omega))
      have hk9 : n + 1 ≤ 1000 := by omega
      have HK9 := Lib.hid hk9
      clear hk9
      go_wp2_with (first
        | (go_at_call 11; (with_reducible refine HC.out.mono ?_); rintro e w1 ⟨b', rfl, hqn, hb1⟩; obtain ⟨g', c', hb', S, hz⟩ := hqn.out.qz; have HZ := Lib.hid hz; have HB1 := Lib.hid hb1.out; clear hqn hb1 hz HC)
        | (go_at_call 12; (with_reducible refine (HLOW.out _ _ _ _ _ _ HB1.out HZ.out).mono ?_); rintro e w2 ⟨rfl, htw, hb2⟩; have HTW := Lib.hid htw.out; have HB2 := Lib.hid (below_then HBW.out HBW.out.size hb2.out); clear htw hb2 HLOW HB1 HZ)
        | (go_at_call 13; fail))
      have HQ1 := Lib.hid (fun W (D : TwoQ base W b g 8 hb b' g' c' hb' 8 q (lowR q)) => (show ∃ F, Qx NoT F W b g 8 hb 8 q from (by obtain ⟨⟨S1, h1⟩, _⟩ := D; exact ⟨_, h1.qx⟩)))
      have HQ2 := Lib.hid (fun W (D : TwoQ base W b g 8 hb b' g' c' hb' 8 q (lowR q)) => (show ∃ F, Qx NoT F W b' g' c' hb' 8 (lowR q) from (by obtain ⟨_, ⟨S1, h1⟩⟩ := D; exact ⟨_, h1.qx⟩)))
      have HN1 := Lib.hid (fun W (D : TwoQ base W b g 8 hb b' g' c' hb' 8 q (lowR q)) => (show Calls Tryz.prog 13 #[.pointer (some ⟨b, 0, none⟩)] W fun e w' => e = .returned (.int .i64 q.now) ∧ W = w' from (by obtain ⟨F, h1⟩ := HQ1.out W D; exact qnow h1)))
      have HN2 := Lib.hid (fun W (D : TwoQ base W b g 8 hb b' g' c' hb' 8 q (lowR q)) => (show Calls Tryz.prog 13 #[.pointer (some ⟨b', 0, none⟩)] W fun e w' => e = .returned (.int .i64 0) ∧ W = w' from (by obtain ⟨F, h1⟩ := HQ2.out W D; exact qnow h1)))
      have HW1 := Lib.hid (fun W (D : TwoQ base W b g 8 hb b' g' c' hb' 8 q (lowR q)) => (show Calls Tryz.prog 15 #[.pointer (some ⟨b, 0, none⟩)] W fun e w' => ∃ A m d, e = .returned (.slice A m d) ∧ Rds w' 1 A m d (nums .i64 (zs (byKeys q.h.ks q.h.ids))) ∧ Below W.heap.size W w' from (by obtain ⟨F, h1⟩ := HQ1.out W D; exact awaits h1 (by omega) (by omega))))
      have HW2 := Lib.hid (fun W (D : TwoQ base W b g 8 hb b' g' c' hb' 8 q (lowR q)) => (show Calls Tryz.prog 15 #[.pointer (some ⟨b', 0, none⟩)] W fun e w' => ∃ A m d, e = .returned (.slice A m d) ∧ Rds w' 1 A m d (nums .i64 (zs (byKeys q.h.ks q.h.ids))) ∧ Below W.heap.size W w' from (by obtain ⟨F, h1⟩ := HQ2.out W D; have h2 := awaits h1 (by omega) (by omega); rw [lower_waits HJ.out] at h2; exact h2)))
      have HS2 := Lib.hid (fun W (D : TwoQ base W b g 8 hb b' g' c' hb' 8 q (lowR q)) => (show Calls Tryz.prog 16 #[.pointer (some ⟨b', 0, none⟩)] W fun e w' => e = .returned (.bool true) ∧ Below W.heap.size W w' from (by obtain ⟨F, h1⟩ := HQ2.out W D; exact qsound h1 HJL.out.i HK9.out (by omega) (by omega))))
      generalize zs (byKeys q.h.ks q.h.ids) = L at HW1 HW2
      go_wp2_with (first
        | (go_at_call 13; (with_reducible refine (HN1.out _ HTW.out).mono ?_); rintro e w3 ⟨rfl, rfl⟩)
        | (go_at_call 13; (with_reducible refine (HN2.out _ HTW.out).mono ?_); rintro e w3 ⟨rfl, rfl⟩)
        | (go_at_call 15; (with_reducible refine (HW2.out _ HTW.out).mono ?_); rintro e w3 ⟨A1, m1, d1, rfl, hr1, hb3⟩; have HR1 := Lib.hid hr1; have HTW3 := Lib.hid (HTW.out.below hb3); have HB3 := Lib.hid (below_then HB2.out HB2.out.size hb3); clear hr1 hb3 HTW HB2)
        | (go_at_call 15; (with_reducible refine (HW1.out _ HTW3.out).mono ?_); rintro e w4 ⟨A2, m2, d2, rfl, hr2, hb4⟩; have HR2 := Lib.hid hr2; have HR3 := Lib.hid (HR1.out.below hb4); have HTW4 := Lib.hid (HTW3.out.below hb4); have HB4 := Lib.hid (below_then HB3.out HB3.out.size hb4); clear hr2 hb4 HTW3 HB3 HR1)
        | (go_at_call 14; (with_reducible refine (ints03 A1 m1 d1 L A2 m2 d2 L _ HR3.out HR2.out).mono ?_); rintro e w5 ⟨he5, hb5⟩; rw [decide_eq_true rfl] at he5; subst he5; have HTW5 := Lib.hid (HTW4.out.below hb5); have HB5 := Lib.hid (below_then HB4.out HB4.out.size hb5); clear hb5 HTW4 HB4 HR2 HR3)
        | (go_at_call 16; (with_reducible refine (HS2.out _ HTW5.out).mono ?_); rintro e w6 ⟨rfl, hb6⟩; have HTW6 := Lib.hid (HTW5.out.below hb6); have HB6 := Lib.hid (below_then HB5.out HB5.out.size hb6); clear hb6 HTW5 HB5))
      go_loopw [9] (fun i wr => ∃ (j : Nat), j ≤ 8 ∧ i = .int .i64 j ∧ Hid (TwoQ base wr b g 8 hb b' g' c' hb' 8 q (lowR q)) ∧ Hid (Below w.heap.size w wr)) (fun i _ => 8 - (intOf i).toNat)
      case atStart => exact ⟨0, by omega, rfl, HTW6, HB6⟩
      case round =>
        obtain ⟨j, hj, rfl, HD, HB⟩ := hrel
        clear HTW6 HB6
        by_cases hj8 : j < 8
        · have hj8' : (j : Int) < 8 := by omega
          clear HN1 HN2 HW1 HW2 HS2
          have HX1 := Lib.hid (fun W (D : TwoQ base W b g 8 hb b' g' c' hb' 8 q (lowR q)) => (show Calls Tryz.prog 17 #[.pointer (some ⟨b, 0, none⟩), .int .i64 j] W fun e w' => e = .returned (.tuple #[.int .i64 (q.rows.getD j row0).ps, .bool (decide ((q.rows.getD j row0).st ≠ 0))]) ∧ W = w' from (by obtain ⟨F, h1⟩ := HQ1.out W D; have h2 := apass h1 HJ.out (j : Int); rw [rowN_in hj8] at h2; exact h2)))
          have HX2 := Lib.hid (fun W (D : TwoQ base W b g 8 hb b' g' c' hb' 8 q (lowR q)) => (show Calls Tryz.prog 17 #[.pointer (some ⟨b', 0, none⟩), .int .i64 j] W fun e w' => e = .returned (.tuple #[.int .i64 (lowOne q.now (q.rows.getD j row0)).ps, .bool (decide ((lowOne q.now (q.rows.getD j row0)).st ≠ 0))]) ∧ W = w' from (by obtain ⟨F, h1⟩ := HQ2.out W D; have h2 := apass h1 HJL.out (j : Int); rw [rowN_low HJ.out hj8] at h2; exact h2)))
          have HT1 := Lib.hid (fun W (D : TwoQ base W b g 8 hb b' g' c' hb' 8 q (lowR q)) => (show Calls Tryz.prog 18 #[.pointer (some ⟨b, 0, none⟩), .int .i64 j] W fun e w' => e = .returned (.int .i64 (q.rows.getD j row0).st) ∧ W = w' from (by obtain ⟨F, h1⟩ := HQ1.out W D; have h2 := astate h1 (j : Int); rw [rowN_in hj8] at h2; exact h2)))
          have HT2 := Lib.hid (fun W (D : TwoQ base W b g 8 hb b' g' c' hb' 8 q (lowR q)) => (show Calls Tryz.prog 18 #[.pointer (some ⟨b', 0, none⟩), .int .i64 j] W fun e w' => e = .returned (.int .i64 (q.rows.getD j row0).st) ∧ W = w' from (by obtain ⟨F, h1⟩ := HQ2.out W D; have h2 := astate h1 (j : Int); rw [rowN_low HJ.out hj8, (lowOne_st _ _).1] at h2; exact h2)))
          have HK1 := Lib.hid (fun W (D : TwoQ base W b g 8 hb b' g' c' hb' 8 q (lowR q)) => (show Calls Tryz.prog 19 #[.pointer (some ⟨b, 0, none⟩), .int .i64 j] W fun e w' => e = .returned (.int .i64 (q.rows.getD j row0).pk) ∧ Below W.heap.size W w' from (by obtain ⟨F, h1⟩ := HQ1.out W D; have h2 := apicks h1 (j : Int); rw [rowN_in hj8] at h2; exact h2)))
          have HK2 := Lib.hid (fun W (D : TwoQ base W b g 8 hb b' g' c' hb' 8 q (lowR q)) => (show Calls Tryz.prog 19 #[.pointer (some ⟨b', 0, none⟩), .int .i64 j] W fun e w' => e = .returned (.int .i64 (q.rows.getD j row0).pk) ∧ Below W.heap.size W w' from (by obtain ⟨F, h1⟩ := HQ2.out W D; have h2 := apicks h1 (j : Int); rw [rowN_low HJ.out hj8, (lowOne_st _ _).2.2.1] at h2; exact h2)))
          have hz := HJ.out.z j hj8
          have hlo := lowOne_st q.now (q.rows.getD j row0)
          have hws := sub_wrap (HJ.out.psI (by omega) hj8).2
          rw [hlo.1] at HX2
          generalize q.rows.getD j row0 = r at HX1 HX2 HT1 HT2 HK1 HK2 hz hlo hws
          obtain ⟨rst, rtk, rps, rpk⟩ := r
          simp only at HX1 HX2 HT1 HT2 HK1 HK2 hz hlo hws
          by_cases hs0 : rst = 0
          · subst hs0
            rw [hlo.2.2.2.2 rfl, hz rfl] at HX2
            rw [hz rfl] at HX1
            clear hz hlo hws
            go_wp2_with (first
              | (go_at_call 17; (with_reducible refine (HX1.out _ HD.out).mono ?_); rintro e w3 ⟨rfl, rfl⟩)
              | (go_at_call 17; (with_reducible refine (HX2.out _ HD.out).mono ?_); rintro e w3 ⟨rfl, rfl⟩)
              | (go_at_call 18; (with_reducible refine (HT1.out _ HD.out).mono ?_); rintro e w3 ⟨rfl, rfl⟩)
              | (go_at_call 18; (with_reducible refine (HT2.out _ HD.out).mono ?_); rintro e w3 ⟨rfl, rfl⟩)
              | (go_at_call 19; (with_reducible refine (HK1.out _ HD.out).mono ?_); rintro e w3 ⟨rfl, hb3⟩; have HD3 := Lib.hid (HD.out.below hb3); have HB3 := Lib.hid (below_then HB.out HB.out.size hb3); clear hb3)
              | (go_at_call 19; (with_reducible refine (HK2.out _ HD3.out).mono ?_); rintro e w4 ⟨rfl, hb4⟩; have HD4 := Lib.hid (HD3.out.below hb4); have HB4 := Lib.hid (below_then HB3.out HB3.out.size hb4); clear hb4))
            go_roundw
            case rel => exact ⟨j + 1, by omega, by go_num, HD4, HB4⟩
            case measure => simp only [intOf]; omega
          · have hs1 : decide (rst ≠ 0) = true := decide_eq_true hs0
            rw [hs1, hlo.2.2.2.1 hs0] at HX2
            rw [hs1] at HX1
            clear hz hlo hs1
            generalize hnq : q.now = nw at HX2 hws ⊢
            go_wp2_with (first
              | (go_at_call 17; (with_reducible refine (HX1.out _ HD.out).mono ?_); rintro e w3 ⟨rfl, rfl⟩)
              | (go_at_call 17; (with_reducible refine (HX2.out _ HD.out).mono ?_); rintro e w3 ⟨rfl, rfl⟩)
              | (go_at_call 18; (with_reducible refine (HT1.out _ HD.out).mono ?_); rintro e w3 ⟨rfl, rfl⟩)
              | (go_at_call 18; (with_reducible refine (HT2.out _ HD.out).mono ?_); rintro e w3 ⟨rfl, rfl⟩)
              | (go_at_call 19; (with_reducible refine (HK1.out _ HD.out).mono ?_); rintro e w3 ⟨rfl, hb3⟩; have HD3 := Lib.hid (HD.out.below hb3); have HB3 := Lib.hid (below_then HB.out HB.out.size hb3); clear hb3)
              | (go_at_call 19; (with_reducible refine (HK2.out _ HD3.out).mono ?_); rintro e w4 ⟨rfl, hb4⟩; have HD4 := Lib.hid (HD3.out.below hb4); have HB4 := Lib.hid (below_then HB3.out HB3.out.size hb4); clear hb4))
            go_roundw
            case rel => exact ⟨j + 1, by omega, by go_num, HD4, HB4⟩
            case measure => simp only [intOf]; omega
        · obtain rfl : j = 8 := by omega
          go_wp2_with (go_at_call 6; (with_reducible refine (HL.out _).mono ?_); rintro e w' ⟨rfl, hb⟩)
          go_ret
          exact ⟨rfl, below_then HB.out HB.out.size hb⟩
end Go.Proofs.YtabdipfpfbdghaaGreat
