/- act: Pick, Lower and what is no act; all of them. -/
import Derived.Test.YtabdipfpfbdghaaGreatZReaAct3
namespace Go.Proofs.YtabdipfpfbdghaaGreat
open Go.RowKit
variable {base b g c hb mb mg cm n k : Nat} {w : World} {q : QV} {TT : Nat → Prop}
theorem pk_rows {x : Nat} (J : QJ n q k) (hk : k ≤ 1000) (hx : q.h.ids[0]? = some x) : (if q.now < (q.rows.getD x row0).ps then (q.rows.getD x row0).ps else q.now) = (pickR q x).now ∧ q.rows.set x ⟨2, (q.rows.getD x row0).tk, (q.rows.getD x row0).ps + strideV (q.rows.getD x row0).tk, (q.rows.getD x row0).pk + 1⟩ = (pickR q x).rows ∧ x < n ∧ I64 ((q.rows.getD x row0).ps + strideV (q.rows.getD x row0).tk) ∧ I64 ((q.rows.getD x row0).pk + 1) := by
  obtain ⟨p1, p2, p3, p4, p5⟩ := pickI J.i hx
  obtain ⟨a1, a2, a3⟩ := J.i.key x p1 p2
  have ht := J.i.tk x p1 (by omega)
  have hsr := strideQ_in ht
  have h2 := J.nowI hk
  have hp := J.i.pk x p1
  refine ⟨?_, ?_, p1, ?_, ?_⟩
  · show _ = q.h.ks.getD x 0
    rw [p4]
    split <;> omega
  · show _ = q.rows.set x ⟨2, (q.rows.getD x row0).tk, q.h.ks.getD x 0 + strideV (q.rows.getD x row0).tk, (q.rows.getD x row0).pk + 1⟩
    rw [p4]
  · unfold I64; omega
  · unfold I64; omega
theorem QJ.pickS (J : QJ n q k) : QJ n (pickS q).2 (k + 1) := by
  cases hx : q.h.ids[0]? with
  | none => rw [pickS_none hx]; exact J.more
  | some x => rw [pickS_some hx]; exact J.pick hx
/-- What Pick tells. -/
theorem pickS_val (q : QV) : ∃ x ok, (pickS q).1 = .tuple #[.int .i64 x, .bool ok] := by
  cases hx : q.h.ids[0]? with
  | none => rw [pickS_none hx]; exact ⟨0, false, rfl⟩
  | some x => rw [pickS_some hx]; exact ⟨x, true, rfl⟩
theorem rpick (M : Mq w base mb mg n cm q.now q.rows) (J : QJ n q k) (hk : k ≤ 1000) (hn : n ≤ 4096) :
    Calls Tryz.prog 26 #[.pointer (some ⟨mb, 0, none⟩)] w fun e w' => e = .returned (pickS q).1 ∧ Hid (Mq w' base mb mg n cm (pickS q).2.now (pickS q).2.rows) ∧ Hid (Chg (Ms mb mg) w w') := by
  have h1 := J.nowI hk
  cases hx : q.h.ids[0]? with
  | none =>
    rw [pickS_none hx]
    refine (mpickNo M hn (by omega) (pick_nil J.i hx)).mono ?_
    rintro e w' ⟨he, hb1⟩
    exact ⟨he, Lib.hid (M.below hb1.out), Lib.hid (Chg.of_below hb1.out)⟩
  | some x =>
    rw [pickS_some hx]
    obtain ⟨L, hL⟩ := pick_head J.i hx
    obtain ⟨e1, e2, e3, e4, e5⟩ := pk_rows J hk hx
    refine (mpick M hn (by omega) x L hL e3 _ rfl e4 e5).mono ?_
    rw [e1, e2]
    exact fun _ _ h => h
set_option maxRecDepth 100000 in
set_option maxHeartbeats 8000000 in
theorem actK1 (P : Pz base w b g c hb mb mg cm n q q.now q.rows TT) (J : QJ n q k) (hk : k ≤ 1000) (h0 : 0 < n) (hn : n ≤ 4096) (z t : Int) :
    Calls Tryz.prog 9 #[.pointer (some ⟨b, 0, none⟩), .pointer (some ⟨mb, 0, none⟩), ac18 1 z t] w (AQ w base b g c hb mb mg cm n k TT) := by
  have HJ2 := Lib.hid J.pickS
  have HCC := Lib.hid (fun W (P2 : Pz base W b g c hb mb mg cm n q q.now q.rows TT) => (show Calls Tryz.prog 22 #[.pointer (some ⟨b, 0, none⟩)] W (fun e w' => e = .returned (pickS q).1 ∧ ∃ T', Pz base w' b g c hb mb mg cm n (pickS q).2 q.now q.rows T' ∧ Stq W w' TT T') from (by
    obtain ⟨K, Q, hK⟩ := P2.code
    refine (qpickK Q J.i hk h0 hn).mono ?_
    rintro e w' ⟨he, hq⟩
    exact ⟨he, hK _ _ hq.out⟩)))
  have HRR := Lib.hid (fun W T1 q2 (P2 : Pz base W b g c hb mb mg cm n q2 q.now q.rows T1) => (show Calls Tryz.prog 26 #[.pointer (some ⟨mb, 0, none⟩)] W (fun e w' => e = .returned (pickS q).1 ∧ Pz base w' b g c hb mb mg cm n q2 (pickS q).2.now (pickS q).2.rows T1 ∧ Chg T1 W w') from (by
    refine (rpick P2.mq J hk hn).mono ?_
    rintro e w' ⟨he, h1, h2⟩
    exact ⟨he, P2.ref h2.out h1.out⟩)))
  obtain ⟨x, ok, hx⟩ := pickS_val q
  rw [hx] at HCC HRR
  generalize (pickS q).2 = q' at HJ2 HCC HRR
  have hal : Below w.heap.size w (w.alloc (.cells #[.int .i64 1, .int .i64 z, .int .i64 t] (29 : Nat))) := below_al (Below.refl _ _) _
  have HAL := Lib.hid hal
  have HP := Lib.hid (P.below hal)
  unfold ac18
  clear hal J hk hn P hx
  go_enter Tryz.func9, Tryz.ntmps9
  go_wp2_with (first
    | (go_at_call 22; (with_reducible refine (HCC.out _ HP.out).mono ?_); rintro e w1 ⟨rfl, T1, hp1, hs1⟩; have HP1 := Lib.hid hp1; have HS1 := Lib.hid hs1; clear hp1 hs1)
    | (go_at_call 26; (with_reducible refine (HRR.out _ _ _ HP1.out).mono ?_); rintro e w2 ⟨rfl, hp2, hc2⟩; have HP2 := Lib.hid hp2; have HC2 := Lib.hid hc2; clear hp2 hc2))
  go_ret
  exact ⟨rfl, q', T1, HP2.out, (Stq.of_below HAL.out).trans (HS1.out.trans ⟨HC2.out, fun _ h => .inl h⟩), HJ2.out⟩
set_option maxRecDepth 100000 in
set_option maxHeartbeats 8000000 in
theorem actK8 (P : Pz base w b g c hb mb mg cm n q q.now q.rows TT) (J : QJ n q k) (hk : k ≤ 1000) (h0 : 0 < n) (hn : n ≤ 4096) (z t : Int) :
    Calls Tryz.prog 9 #[.pointer (some ⟨b, 0, none⟩), .pointer (some ⟨mb, 0, none⟩), ac18 8 z t] w (AQ w base b g c hb mb mg cm n k TT) := by
  have HJ2 := Lib.hid (J.lower hk)
  have hnow := (J.nowI hk).2.2
  have hps := fun x (hx : x < n) => J.psI hk hx
  have HCC := Lib.hid (fun W (P2 : Pz base W b g c hb mb mg cm n q q.now q.rows TT) => (show Calls Tryz.prog 12 #[.pointer (some ⟨b, 0, none⟩)] W (fun e w' => e = .returned (.int .i64 q.now) ∧ ∃ T', Pz base w' b g c hb mb mg cm n (lowR q) q.now q.rows T' ∧ Stq W w' TT T') from (by
    obtain ⟨K, Q, hK⟩ := P2.code
    refine (qlower Q J.i hn h0 hnow hps).mono ?_
    rintro e w' ⟨he, hq⟩
    exact ⟨he, hK _ _ hq.out⟩)))
  have HRR := Lib.hid (fun W T1 q2 (P2 : Pz base W b g c hb mb mg cm n q2 q.now q.rows T1) => (show Calls Tryz.prog 38 #[.pointer (some ⟨mb, 0, none⟩)] W (fun e w' => e = .returned (.int .i64 q.now) ∧ Pz base w' b g c hb mb mg cm n q2 (lowR q).now (lowR q).rows T1 ∧ Chg T1 W w') from (by
    refine (mlower P2.mq hn hnow hps).mono ?_
    rintro e w' ⟨he, h1, h2⟩
    exact ⟨he, P2.ref h2.out h1.out⟩)))
  generalize lowR q = q' at HJ2 HCC HRR
  generalize q.now = now0 at HCC HRR P
  have hal : Below w.heap.size w (w.alloc (.cells #[.int .i64 8, .int .i64 z, .int .i64 t] (29 : Nat))) := below_al (Below.refl _ _) _
  have HAL := Lib.hid hal
  have HP := Lib.hid (P.below hal)
  unfold ac18
  clear hal J hk hn P hnow hps
  go_enter Tryz.func9, Tryz.ntmps9
  go_wp2_with (first
    | (go_at_call 12; (with_reducible refine (HCC.out _ HP.out).mono ?_); rintro e w1 ⟨rfl, T1, hp1, hs1⟩; have HP1 := Lib.hid hp1; have HS1 := Lib.hid hs1; clear hp1 hs1)
    | (go_at_call 38; (with_reducible refine (HRR.out _ _ _ HP1.out).mono ?_); rintro e w2 ⟨rfl, hp2, hc2⟩; have HP2 := Lib.hid hp2; have HC2 := Lib.hid hc2; clear hp2 hc2))
  go_ret
  exact ⟨rfl, q', T1, HP2.out, (Stq.of_below HAL.out).trans (HS1.out.trans ⟨HC2.out, fun _ h => .inl h⟩), HJ2.out⟩
set_option maxRecDepth 100000 in
set_option maxHeartbeats 8000000 in
theorem actKno (P : Pz base w b g c hb mb mg cm n q q.now q.rows TT) (J : QJ n q k) (kd z t : Int) (hd : ∀ i : Nat, i ≤ 8 → kd ≠ (i : Int)) :
    Calls Tryz.prog 9 #[.pointer (some ⟨b, 0, none⟩), .pointer (some ⟨mb, 0, none⟩), ac18 kd z t] w (AQ w base b g c hb mb mg cm n k TT) := by
  have HJ2 := Lib.hid J.more
  have hal : Below w.heap.size w (w.alloc (.cells #[.int .i64 kd, .int .i64 z, .int .i64 t] (29 : Nat))) := below_al (Below.refl _ _) _
  have HAL := Lib.hid hal
  have HP := Lib.hid (P.below hal)
  have e0 : (kd == 0) = false := by simpa using hd 0 (by omega)
  have e1 : (kd == 1) = false := by simpa using hd 1 (by omega)
  have e2 : (kd == 2) = false := by simpa using hd 2 (by omega)
  have e3 : (kd == 3) = false := by simpa using hd 3 (by omega)
  have e4 : (kd == 4) = false := by simpa using hd 4 (by omega)
  have e5 : (kd == 5) = false := by simpa using hd 5 (by omega)
  have e6 : (kd == 6) = false := by simpa using hd 6 (by omega)
  have e7 : (kd == 7) = false := by simpa using hd 7 (by omega)
  have e8 : (kd == 8) = false := by simpa using hd 8 (by omega)
  unfold ac18
  clear hal J P hd
  go_enter Tryz.func9, Tryz.ntmps9
  go_wp2
  go_ret
  exact ⟨rfl, q, TT, HP.out, Stq.of_below HAL.out, HJ2.out⟩
theorem actK (P : Pz base w b g c hb mb mg cm n q q.now q.rows TT) (J : QJ n q k) (hk : k ≤ 1000) (h0 : 0 < n) (hn : n ≤ 4096) (kd z t : Int) :
    Calls Tryz.prog 9 #[.pointer (some ⟨b, 0, none⟩), .pointer (some ⟨mb, 0, none⟩), ac18 kd z t] w (AQ w base b g c hb mb mg cm n k TT) := by
  by_cases e : ∃ i : Nat, i ≤ 8 ∧ kd = (i : Int)
  · obtain ⟨i, hi, rfl⟩ := e
    have : i = 0 ∨ i = 1 ∨ i = 2 ∨ i = 3 ∨ i = 4 ∨ i = 5 ∨ i = 6 ∨ i = 7 ∨ i = 8 := by omega
    rcases this with rfl | rfl | rfl | rfl | rfl | rfl | rfl | rfl | rfl
    · exact actK0 P J hk hn z t
    · exact actK1 P J hk h0 hn z t
    · exact actK2 P J hk hn z t
    · exact actK3 P J hk hn z t
    · exact actK4 P J hk hn z t
    · exact actK5 P J hk hn z t
    · exact actK6 P J hk hn z t
    · exact actK7 P J hk hn z t
    · exact actK8 P J hk h0 hn z t
  · exact actKno P J kd z t (fun i hi he => e ⟨i, hi, he⟩)
end Go.Proofs.YtabdipfpfbdghaaGreat
