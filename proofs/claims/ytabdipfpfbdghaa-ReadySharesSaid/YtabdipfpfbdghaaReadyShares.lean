/- The law ReadyShares, walked. -/
import Derived.Test.YtabdipfpfbdghaaReadyShare
import Derived.Test.YtabdipfpfbdghaaReadySound
import Derived.Deep.Slices
namespace Go.Proofs.Ytabdipfpfbdghaa
open Go.RowKit
structure Ac3 where
  kd : Int
  id : Int
  tk : Int
def acC3 (m : Ac3) : List Value := [.int .i64 m.kd, .int .i64 m.id, .int .i64 m.tk]
def acs3 (l : List Ac3) : List Value := (l.map acC3).flatten
theorem acs3_len (l : List Ac3) : (acs3 l).length = l.length * 3 := by
  unfold acs3
  induction l with
  | nil => rfl
  | cons r l ih =>
    rw [List.map_cons, List.flatten_cons, List.length_append, ih]
    simp [acC3]
    omega
theorem acs3_get : ∀ (l : List Ac3) (i : Nat) (m : Ac3), l[i]? = some m → ∀ j u, (acC3 m)[j]? = some u → (acs3 l)[i * 3 + j]? = some u
  | [], i, m, h, _, _, _ => by simp at h
  | x :: l, 0, m, h, j, u, hj => by
    simp at h
    subst h
    have hl : j < (acC3 x).length := (List.getElem?_eq_some_iff.1 hj).1
    show ((acC3 x) ++ acs3 l)[0 * 3 + j]? = some u
    rw [Nat.zero_mul, Nat.zero_add, List.getElem?_append_left hl, hj]
  | x :: l, i + 1, m, h, j, u, hj => by
    have h2 := acs3_get l i m (by simpa using h) j u hj
    show ((acC3 x) ++ acs3 l)[(i + 1) * 3 + j]? = some u
    rw [List.getElem?_append_right (by simp [acC3]; omega), show (i + 1) * 3 + j - (acC3 x).length = i * 3 + j by simp [acC3]; omega]
    exact h2
theorem ac3_read {w : World} {ad : Addr} {n c : Nat} {l : List Ac3} (h : Rds w 3 (some ad) n c (acs3 l)) (k : Nat) (m : Ac3) (hk : l[k]? = some m) :
    w.cell? (ad.add (k * 3)) = some (.int .i64 m.kd) ∧ w.cell? ⟨(ad.add (k * 3)).block, (ad.add (k * 3)).off + 1, none⟩ = some (.int .i64 m.id) ∧ w.cell? ⟨(ad.add (k * 3)).block, (ad.add (k * 3)).off + 2, none⟩ = some (.int .i64 m.tk) := by
  have h1 : ∀ j u, (acC3 m)[j]? = some u → w.cell? ((ad.add (k * 3)).add j) = some u := by
    intro j u hj
    rw [Go.Deep.add_add]
    exact h.cell ad rfl _ _ (acs3_get l k m hk j u hj)
  exact ⟨h1 0 _ rfl, h1 1 _ rfl, h1 2 _ rfl⟩
theorem shares_lives (a b : Int) (A : Option Addr) (n c : Nat) (w : World) (hn : 150 < n) : Calls Try.prog 3 #[.int .u16 a, .int .u16 b, .slice A n c] w fun e w' => e = .returned (.bool true) ∧ Below w.heap.size w w' := by
  have HL := Lib.hid (lives18 w)
  have hn' : (150 : Int) < (n : Int) := by omega
  go_enter Try.func3, Try.ntmps3
  go_wp2_with (go_at_call 5; (with_reducible refine HL.out.mono ?_); rintro e w1 ⟨rfl, hb⟩)
  go_ret
  exact ⟨rfl, hb⟩
set_option maxRecDepth 100000 in
set_option maxHeartbeats 8000000 in
theorem shares_walk (a0 b0 : Int) (ha : 0 ≤ a0 ∧ a0 ≤ 65535) (hb0 : 0 ≤ b0 ∧ b0 ≤ 65535) (A : Option Addr) (n c : Nat) (l : List Ac3) (w : World) (hr : Rds w 3 A n c (acs3 l)) (hn : n ≤ 150) : Calls Try.prog 3 #[.int .u16 a0, .int .u16 b0, .slice A n c] w fun e w' => e = .returned (.bool true) ∧ Below w.heap.size w w' := by
  have hn' : ¬ ((150 : Int) < (n : Int)) := by omega
  have hll : l.length = n := by have := hr.len; rw [acs3_len] at this; omega
  obtain ⟨a1, a2⟩ := ha
  obtain ⟨b1, b2⟩ := hb0
  obtain ⟨t, ht⟩ : ∃ t, 1 + a0 = t := ⟨_, rfl⟩
  obtain ⟨u, hu⟩ : ∃ u, 1 + b0 = u := ⟨_, rfl⟩
  have rt : rightT t = true := by unfold rightT; exact decide_eq_true (by omega)
  have ru : rightT u = true := by unfold rightT; exact decide_eq_true (by omega)
  have HL := Lib.hid lives18
  have HN := Lib.hid (qnew 20 20 rfl w (by decide) (by decide))
  have hst := RS.start rt ru
  have HST := Lib.hid hst
  have e1 : (newR 20).rows.getD 0 row0 = row0 := rfl
  have e2 : (joinR (newR 20) 0 t).rows.getD 1 row0 = row0 := rfl
  have j1 : ¬ hasV (newR 20).h 0 := (new_ok 20).2 0
  have j2 : ¬ hasV (joinR (newR 20) 0 t).h 1 := by
    have T := put_ok (new_ok 20).1 0 (newR 20).now (by decide) j1
    intro h
    rcases (T.has 1).1 h with h | h
    · exact (new_ok 20).2 1 h
    · exact absurd h (by decide)
  have H1 := Lib.hid (fun b g hb W (H : Qx NoT w W b g 20 hb 20 (newR 20)) => qjoin H (by decide) 0 0 t rfl (by decide) rt (by rw [e1]; rfl) j1)
  have H2 := Lib.hid (fun b g hb W (H : Qx NoT w W b g 20 hb 20 (joinR (newR 20) 0 t)) => qjoin H (by decide) 1 1 u rfl (by decide) ru (by rw [e2]; rfl) j2)
  have HR := Lib.hid hr
  clear hst e1 e2 j1 j2
  have w1 : IntKind.i64.wrap a0 = a0 := by rw [IntKind.wrap_i64] <;> omega
  have w2 : IntKind.i64.wrap b0 = b0 := by rw [IntKind.wrap_i64] <;> omega
  go_enter Try.func3, Try.ntmps3
  go_wp2_with (first
    | (go_at_call 6; (with_reducible refine HN.out.mono ?_); rintro e w1 ⟨b, g, hb, rfl, hX0⟩)
    | (go_at_call 7; (with_reducible refine (H1.out _ _ _ _ hX0).mono ?_); rintro e w2 ⟨rfl, hX1⟩)
    | (go_at_call 7; (with_reducible refine (H2.out _ _ _ _ hX1).mono ?_); rintro e w3 ⟨rfl, hX2⟩))
  have HST1 := Lib.hid HST.out.1
  have hOn0 : Hid (OnR (joinR (joinR (newR 20) 0 t) 1 u) (-1)) := .inl ⟨rfl, HST.out.2⟩
  generalize joinR (joinR (newR 20) 0 t) 1 u = q0 at HST1 hOn0 hX2
  clear HST H1 H2 HN hX0 hX1
  have HP0 : Hid (∀ W q2, Qx NoT w W b g 20 hb 20 q2 → Calls Try.prog 15 #[.pointer (some ⟨b, 0, none⟩), .int .i64 0] W fun e w' => ∃ n0, e = .returned (.int .i64 n0) ∧ Hid ((q2.rows.getD 0 row0).pk = n0) ∧ Below W.heap.size W w') := by
    intro W q2 h
    refine (qpicks h 0 0 rfl (by decide)).mono ?_
    rintro e w' ⟨h1, h2⟩
    exact ⟨_, h1, (show _ = _ from rfl), h2⟩
  have HP1 : Hid (∀ W q2, Qx NoT w W b g 20 hb 20 q2 → Calls Try.prog 15 #[.pointer (some ⟨b, 0, none⟩), .int .i64 1] W fun e w' => ∃ n0, e = .returned (.int .i64 n0) ∧ Hid ((q2.rows.getD 1 row0).pk = n0) ∧ Below W.heap.size W w') := by
    intro W q2 h
    refine (qpicks h 1 1 rfl (by decide)).mono ?_
    rintro e w' ⟨h1, h2⟩
    exact ⟨_, h1, (show _ = _ from rfl), h2⟩
  have HWI : Hid (∀ (q2 : QV) (k2 : Nat) (on n0 n1 : Int) (W : World), Hid ((q2.rows.getD 0 row0).pk = n0) → Hid ((q2.rows.getD 1 row0).pk = n1) → RS t u q2 k2 → k2 ≤ 300 → OnR q2 on → Calls Try.prog 14 #[.int .i64 n0, .int .i64 t, .int .i64 n1, .int .i64 u, .int .i64 1] W fun e w' => e = .returned (.bool true) ∧ Below W.heap.size W w') := by
    intro q2 k2 on n0 n1 W e0 e1 hR hk ho
    obtain rfl := e0.out
    obtain rfl := e1.out
    have h1 := hR.near hk ho rt ru
    have p1 := hR.qi.pk 0 (by omega)
    have p2 := hR.qi.pk 1 (by omega)
    have h2 := wwithin (q2.rows.getD 0 row0).pk t (q2.rows.getD 1 row0).pk u 1 (by unfold I64; omega) (by unfold I64; omega) (by unfold I64; omega) (by unfold I64; omega) W
    rw [h1] at h2
    exact h2
  have HSD := Lib.hid (fun W q2 (k2 : Nat) (h : Qx NoT w W b g 20 hb 20 q2) (hR : RS t u q2 k2) (hk : k2 ≤ 1000) => qsound h hR.qi hk (by decide) (by decide))
  obtain ⟨W1, rfl⟩ : ∃ x, x = w3 := ⟨_, rfl⟩
  go_loopw [10, 43] (fun o i wr => ∃ (j : Nat) (q : QV) (on : Int), j ≤ n ∧ i = .int .i64 j ∧ o = .int .i64 on ∧ Hid (RS t u q (j + 2)) ∧ Hid (OnR q on) ∧ Qx NoT w wr b g 20 hb 20 q) (fun _ i _ => n - (intOf i).toNat)
  case atStart => exact ⟨0, q0, -1, Nat.zero_le _, rfl, rfl, (show Hid _ from HST1.out), (show Hid _ from hOn0.out), hX2⟩
  case round =>
    obtain ⟨j, q, on, hj, rfl, rfl, hRS0, hOn1, hQ⟩ := hrel
    clear HST1 hOn0 hX2
    by_cases hjn : j < n
    · have hjn' : (j : Int) < (n : Int) := by omega
      obtain ⟨ad, rfl⟩ := hr.some_ (by omega)
      obtain ⟨x0, x1, x2⟩ := ac3_read (HR.out.below hQ.2) j l[j] (List.getElem?_eq_getElem (by omega))
      generalize l[j] = ac at x0 x1 x2
      obtain ⟨kd, idz, tkz⟩ := ac
      simp only at x0 x1 x2
      obtain ⟨W5, hW5⟩ : ∃ W5, W5 = wr.alloc (.cells #[.int .i64 kd, .int .i64 idz, .int .i64 tkz] (30 : Nat)) := ⟨_, rfl⟩
      have hal : Below wr.heap.size wr W5 := by rw [hW5]; exact below_al (Below.refl _ _) _
      have y0 : W5.cell? ⟨wr.heap.size, 0, none⟩ = some (.int .i64 kd) := by rw [hW5]; go_simp
      have y1 : W5.cell? ⟨wr.heap.size, 1, none⟩ = some (.int .i64 idz) := by rw [hW5]; go_simp
      have y2 : W5.cell? ⟨wr.heap.size, 2, none⟩ = some (.int .i64 tkz) := by rw [hW5]; go_simp
      have hQ5 := hQ.below hal
      rw [hW5] at y0 y1 y2 hQ5
      clear hW5 hal
      have hI := hRS0.out.qi
      have hnow := hI.now
      have hnow0 := hnow.1
      have hnb : q.now ≤ 1000 * 1099511627776 := by
        have hk3 : ((j + 2 : Nat) : Int) * 1099511627776 ≤ 1000 * 1099511627776 := Int.mul_le_mul_of_nonneg_right (by omega) (by omega)
        omega
      obtain ⟨r, hr18, hrm⟩ : ∃ r : Nat, r < 18 ∧ (IntKind.u64.wrap idz).tmod 18 = (r : Int) := by
        have h1 : 0 ≤ IntKind.u64.wrap idz := by rw [IntKind.wrap_u64]; omega
        have h2 := Int.tmod_nonneg 18 h1
        have h3 := Int.tmod_lt_of_pos (IntKind.u64.wrap idz) (show (0 : Int) < 18 by omega)
        exact ⟨((IntKind.u64.wrap idz).tmod 18).toNat, by omega, by omega⟩
      have hnI : I64 q.now := by unfold I64; omega
      have hn60 : q.now ≤ 1152921504606846976 := by omega
      clear hnow hnb
      rcases hOn1.out with ⟨hon, hid⟩ | ⟨x, hon, hrun⟩
      · subst hon
        have hhas := hI.has (r + 2) (by omega)
        by_cases k0 : kd = 0
        · have HA := Lib.hid (qjoinAny hQ5 (by decide) (r + 2) (2 + (r : Int)) tkz (by omega) (by omega) (fun h e => by have := hhas.1 e; omega))
          have HO : Hid (∀ q2, (q2 = q ∨ q2 = joinR q (r + 2) tkz ∧ (q.rows.getD (r + 2) row0).st = 0 ∧ rightT tkz = true) → RS t u q2 (j + 1 + 2) ∧ OnR q2 (-1)) := by
            rintro q2 (rfl | ⟨rfl, h1, h2⟩)
            · exact ⟨hRS0.out.same, .inl ⟨rfl, hid⟩⟩
            · have := hRS0.out.join hid (show r + 2 < 20 by omega) (by omega) tkz h2 h1
              exact ⟨this.1, .inl ⟨rfl, this.2⟩⟩
          subst k0
          clear hhas hI hQ5 hQ
          go_wp2_with (go_at_call 7; fail)
          refine HA.out.mono ?_
          rintro e w4 ⟨⟨kk, rfl⟩, q2, hF, hq2⟩
          have hRO := HO.out q2 hq2
          have hRS := Lib.hid hRO.1
          have hOn := Lib.hid hRO.2
          clear hq2 hRO
          go_wp2_with (go_at_call 15; fail)
          refine (HP0.out _ _ hF).mono ?_
          rintro e w5 ⟨n0, rfl, hn0, hb5⟩
          have hF5 := hF.below hb5
          go_wp2_with (go_at_call 15; fail)
          refine (HP1.out _ _ hF5).mono ?_
          rintro e w6 ⟨n1, rfl, hn1, hb6⟩
          have hF6 := hF5.below hb6
          go_wp2_with (go_at_call 14; fail)
          refine (HWI.out _ _ _ _ _ w6 hn0 hn1 hRS.out (by omega) hOn.out).mono ?_
          rintro e w7 ⟨rfl, hb7⟩
          have hF7 := hF6.below hb7
          go_wp2_with (go_at_call 16; fail)
          refine (HSD.out _ _ _ hF7 hRS.out (by omega)).mono ?_
          rintro e w8 ⟨rfl, hb8⟩
          have hF8 := hF7.below hb8
          go_wp2
          go_roundw
          case rel => exact ⟨j + 1, _, -1, by omega, by go_num, rfl, (show Hid _ from hRS.out), (show Hid _ from hOn.out), hF8⟩
          case measure => simp only [intOf]; omega
        · by_cases k5 : kd = 5
          · have HA := Lib.hid (qwake hQ5 (by decide) (r + 2) (2 + (r : Int)) (by omega) (by omega) (fun h e => by have := hhas.1 e; omega) hnI (fun h => hI.tk _ (by omega) (by omega)))
            have HO : Hid (∀ q2, (q2 = q ∨ q2 = enterR q (r + 2) ∧ (q.rows.getD (r + 2) row0).st = 3) → RS t u q2 (j + 1 + 2) ∧ OnR q2 (-1)) := by
              rintro q2 (rfl | ⟨rfl, h1⟩)
              · exact ⟨hRS0.out.same, .inl ⟨rfl, hid⟩⟩
              · have := hRS0.out.wake (by omega) hid (show r + 2 < 20 by omega) (by omega) h1
                exact ⟨this.1, .inl ⟨rfl, this.2⟩⟩
            subst k5
            clear hhas hI hQ5 hQ
            go_wp2_with (go_at_call 10; fail)
            refine HA.out.mono ?_
            rintro e w4 ⟨⟨kk, rfl⟩, q2, hF, hq2⟩
            have hRO := HO.out q2 hq2
            have hRS := Lib.hid hRO.1
            have hOn := Lib.hid hRO.2
            clear hq2 hRO
            go_wp2_with (go_at_call 15; fail)
            refine (HP0.out _ _ hF).mono ?_
            rintro e w5 ⟨n0, rfl, hn0, hb5⟩
            have hF5 := hF.below hb5
            go_wp2_with (go_at_call 15; fail)
            refine (HP1.out _ _ hF5).mono ?_
            rintro e w6 ⟨n1, rfl, hn1, hb6⟩
            have hF6 := hF5.below hb6
            go_wp2_with (go_at_call 14; fail)
            refine (HWI.out _ _ _ _ _ w6 hn0 hn1 hRS.out (by omega) hOn.out).mono ?_
            rintro e w7 ⟨rfl, hb7⟩
            have hF7 := hF6.below hb7
            go_wp2_with (go_at_call 16; fail)
            refine (HSD.out _ _ _ hF7 hRS.out (by omega)).mono ?_
            rintro e w8 ⟨rfl, hb8⟩
            have hF8 := hF7.below hb8
            go_wp2
            go_roundw
            case rel => exact ⟨j + 1, _, -1, by omega, by go_num, rfl, (show Hid _ from hRS.out), (show Hid _ from hOn.out), hF8⟩
            case measure => simp only [intOf]; omega
          · by_cases k7 : kd = 7
            · have HA := Lib.hid (qdrop hQ5 (by decide) (r + 2) (2 + (r : Int)) (by omega) (by omega) (fun h => hhas.2 h))
              have HSTT := Lib.hid (qstate hQ5 (r + 2) (2 + (r : Int)) (by omega) (by omega))
              have hs2 := hid (r + 2) (by omega)
              have HO : Hid (∀ q2, (q2 = q ∨ q2 = dropR q (r + 2) ∧ (q.rows.getD (r + 2) row0).st ≠ 0) → RS t u q2 (j + 1 + 2) ∧ OnR q2 (-1)) := by
                rintro q2 (rfl | ⟨rfl, h1⟩)
                · exact ⟨hRS0.out.same, .inl ⟨rfl, hid⟩⟩
                · have := hRS0.out.drop hid (show r + 2 < 20 by omega) (by omega)
                  exact ⟨this.1, .inl ⟨rfl, this.2⟩⟩
              generalize (q.rows.getD (r + 2) row0).st = st at HSTT hs2 HA HO
              subst k7
              clear hhas hI hQ5 hQ
              go_wp2_with (go_at_call 11; fail)
              refine HSTT.out.mono ?_
              rintro e w4 ⟨rfl, rfl⟩
              go_wp2_with (go_at_call 12; fail)
              refine HA.out.mono ?_
              rintro e w4 ⟨⟨kk, rfl⟩, q2, hF, hq2⟩
              have hRO := HO.out q2 hq2
              have hRS := Lib.hid hRO.1
              have hOn := Lib.hid hRO.2
              clear hq2 hRO
              go_wp2_with (go_at_call 15; fail)
              refine (HP0.out _ _ hF).mono ?_
              rintro e w5 ⟨n0, rfl, hn0, hb5⟩
              have hF5 := hF.below hb5
              go_wp2_with (go_at_call 15; fail)
              refine (HP1.out _ _ hF5).mono ?_
              rintro e w6 ⟨n1, rfl, hn1, hb6⟩
              have hF6 := hF5.below hb6
              go_wp2_with (go_at_call 14; fail)
              refine (HWI.out _ _ _ _ _ w6 hn0 hn1 hRS.out (by omega) hOn.out).mono ?_
              rintro e w7 ⟨rfl, hb7⟩
              have hF7 := hF6.below hb7
              go_wp2_with (go_at_call 16; fail)
              refine (HSD.out _ _ _ hF7 hRS.out (by omega)).mono ?_
              rintro e w8 ⟨rfl, hb8⟩
              have hF8 := hF7.below hb8
              go_wp2
              go_roundw
              case rel => exact ⟨j + 1, _, -1, by omega, by go_num, rfl, (show Hid _ from hRS.out), (show Hid _ from hOn.out), hF8⟩
              case measure => simp only [intOf]; omega
            · by_cases h0 : q.h.ids.length = 0
              · have HA := Lib.hid (qpickNo hQ5 (by decide) h0 hn60)
                have hRS := Lib.hid hRS0.out.same
                have hRS : Hid (RS t u q (j + 1 + 2)) := hRS.out
                have hOn := hOn1
                have hF := hQ5
                clear hhas hI hQ hQ5 h0
                go_wp2_with (go_at_call 13; fail)
                refine HA.out.mono ?_
                rintro e w4 ⟨rfl, rfl⟩
                go_wp2_with (go_at_call 15; fail)
                refine (HP0.out _ _ hF).mono ?_
                rintro e w5 ⟨n0, rfl, hn0, hb5⟩
                have hF5 := hF.below hb5
                go_wp2_with (go_at_call 15; fail)
                refine (HP1.out _ _ hF5).mono ?_
                rintro e w6 ⟨n1, rfl, hn1, hb6⟩
                have hF6 := hF5.below hb6
                go_wp2_with (go_at_call 14; fail)
                refine (HWI.out _ _ _ _ _ w6 hn0 hn1 hRS.out (by omega) hOn.out).mono ?_
                rintro e w7 ⟨rfl, hb7⟩
                have hF7 := hF6.below hb7
                go_wp2_with (go_at_call 16; fail)
                refine (HSD.out _ _ _ hF7 hRS.out (by omega)).mono ?_
                rintro e w8 ⟨rfl, hb8⟩
                have hF8 := hF7.below hb8
                go_wp2
                go_roundw
                case rel => exact ⟨j + 1, _, -1, by omega, by go_num, rfl, (show Hid _ from hRS.out), (show Hid _ from hOn.out), hF8⟩
                case measure => simp only [intOf]; omega
              · obtain ⟨x, hx⟩ : ∃ x, q.h.ids[0]? = some x := ⟨_, getD_getH _ _ (by omega)⟩
                obtain ⟨hxn, hst1, hnk, hkp, _⟩ := pickI hI hx
                obtain ⟨_, ky2, ky3⟩ := hI.key x hxn hst1
                have htk := hI.tk x hxn (by omega)
                have hsr := strideQ_in htk
                have hpk := hI.pk x hxn
                have HA := Lib.hid (qpick hQ5 (by decide) x hx hn60 (by omega) hnk htk (by omega))
                obtain ⟨hR2, hI2⟩ := hRS0.out.pick hid hx
                have hRS : Hid (RS t u (pickR q x) (j + 1 + 2)) := hR2
                have hOn : Hid (OnR (pickR q x) x) := .inr ⟨x, rfl, hI2⟩
                generalize pickR q x = q2 at HA hRS hOn hR2 hI2
                clear hhas hI hQ hQ5 h0 hR2 hI2 hkp ky2 ky3 hst1 hnk
                go_wp2_with (go_at_call 13; fail)
                refine HA.out.mono ?_
                rintro e w4 ⟨rfl, hF⟩
                have hF := hF.free
                go_wp2_with (go_at_call 15; fail)
                refine (HP0.out _ _ hF).mono ?_
                rintro e w5 ⟨n0, rfl, hn0, hb5⟩
                have hF5 := hF.below hb5
                go_wp2_with (go_at_call 15; fail)
                refine (HP1.out _ _ hF5).mono ?_
                rintro e w6 ⟨n1, rfl, hn1, hb6⟩
                have hF6 := hF5.below hb6
                go_wp2_with (go_at_call 14; fail)
                refine (HWI.out _ _ _ _ _ w6 hn0 hn1 hRS.out (by omega) hOn.out).mono ?_
                rintro e w7 ⟨rfl, hb7⟩
                have hF7 := hF6.below hb7
                go_wp2_with (go_at_call 16; fail)
                refine (HSD.out _ _ _ hF7 hRS.out (by omega)).mono ?_
                rintro e w8 ⟨rfl, hb8⟩
                have hF8 := hF7.below hb8
                go_wp2
                go_roundw
                case rel => exact ⟨j + 1, _, (x : Int), by omega, by go_num, rfl, (show Hid _ from hRS.out), (show Hid _ from hOn.out), hF8⟩
                case measure => simp only [intOf]; omega
      · subst hon
        have hno : ¬ hasV q.h x := fun h => by have := (hI.has x hrun.lt).1 h; have := hrun.st; omega
        have htk := hI.tk x hrun.lt (by have := hrun.st; omega)
        by_cases hbk : x < 2 ∨ kd.tmod 3 ≠ 0
        · have HA := Lib.hid (qback hQ5 (by decide) x x rfl hrun.lt hrun.st hno hnI htk)
          obtain ⟨hR2, hI2⟩ := hRS0.out.back (by omega) hrun
          have hRS : Hid (RS t u (enterR q x) (j + 1 + 2)) := hR2
          have hOn : Hid (OnR (enterR q x) (-1)) := .inl ⟨rfl, hI2⟩
          generalize enterR q x = q2 at HA hRS hOn hR2 hI2
          clear hI hQ hQ5 hR2 hI2 hno htk
          by_cases hx2 : x < 2
          · have hx2' : (x : Int) < 2 := by omega
            go_wp2_with (go_at_call 8; fail)
            refine HA.out.mono ?_
            rintro e w4 ⟨rfl, hF⟩
            go_wp2_with (go_at_call 15; fail)
            refine (HP0.out _ _ hF).mono ?_
            rintro e w5 ⟨n0, rfl, hn0, hb5⟩
            have hF5 := hF.below hb5
            go_wp2_with (go_at_call 15; fail)
            refine (HP1.out _ _ hF5).mono ?_
            rintro e w6 ⟨n1, rfl, hn1, hb6⟩
            have hF6 := hF5.below hb6
            go_wp2_with (go_at_call 14; fail)
            refine (HWI.out _ _ _ _ _ w6 hn0 hn1 hRS.out (by omega) hOn.out).mono ?_
            rintro e w7 ⟨rfl, hb7⟩
            have hF7 := hF6.below hb7
            go_wp2_with (go_at_call 16; fail)
            refine (HSD.out _ _ _ hF7 hRS.out (by omega)).mono ?_
            rintro e w8 ⟨rfl, hb8⟩
            have hF8 := hF7.below hb8
            go_wp2
            go_roundw
            case rel => exact ⟨j + 1, _, -1, by omega, by go_num, rfl, (show Hid _ from hRS.out), (show Hid _ from hOn.out), hF8⟩
            case measure => simp only [intOf]; omega
          · have hx2' : ¬ ((x : Int) < 2) := by omega
            have hk3 : ¬ (kd.tmod 3 = 0) := by rcases hbk with h | h; exact absurd h hx2; exact h
            go_wp2_with (go_at_call 8; fail)
            refine HA.out.mono ?_
            rintro e w4 ⟨rfl, hF⟩
            go_wp2_with (go_at_call 15; fail)
            refine (HP0.out _ _ hF).mono ?_
            rintro e w5 ⟨n0, rfl, hn0, hb5⟩
            have hF5 := hF.below hb5
            go_wp2_with (go_at_call 15; fail)
            refine (HP1.out _ _ hF5).mono ?_
            rintro e w6 ⟨n1, rfl, hn1, hb6⟩
            have hF6 := hF5.below hb6
            go_wp2_with (go_at_call 14; fail)
            refine (HWI.out _ _ _ _ _ w6 hn0 hn1 hRS.out (by omega) hOn.out).mono ?_
            rintro e w7 ⟨rfl, hb7⟩
            have hF7 := hF6.below hb7
            go_wp2_with (go_at_call 16; fail)
            refine (HSD.out _ _ _ hF7 hRS.out (by omega)).mono ?_
            rintro e w8 ⟨rfl, hb8⟩
            have hF8 := hF7.below hb8
            go_wp2
            go_roundw
            case rel => exact ⟨j + 1, _, -1, by omega, by go_num, rfl, (show Hid _ from hRS.out), (show Hid _ from hOn.out), hF8⟩
            case measure => simp only [intOf]; omega
        · have hx2 : ¬ x < 2 := fun h => hbk (.inl h)
          have hx2' : ¬ ((x : Int) < 2) := by omega
          have hk3 : kd.tmod 3 = 0 := Classical.byContradiction (fun h => hbk (.inr h))
          have HA := Lib.hid (qblock hQ5 x x rfl hrun.lt hrun.st)
          obtain ⟨hR2, hI2⟩ := hRS0.out.block hrun (by omega)
          have hRS : Hid (RS t u (markR q x 3) (j + 1 + 2)) := hR2
          have hOn : Hid (OnR (markR q x 3) (-1)) := .inl ⟨rfl, hI2⟩
          generalize markR q x 3 = q2 at HA hRS hOn hR2 hI2
          clear hI hQ hQ5 hR2 hI2 hno htk
          go_wp2_with (go_at_call 9; fail)
          refine HA.out.mono ?_
          rintro e w4 ⟨rfl, hF⟩
          go_wp2_with (go_at_call 15; fail)
          refine (HP0.out _ _ hF).mono ?_
          rintro e w5 ⟨n0, rfl, hn0, hb5⟩
          have hF5 := hF.below hb5
          go_wp2_with (go_at_call 15; fail)
          refine (HP1.out _ _ hF5).mono ?_
          rintro e w6 ⟨n1, rfl, hn1, hb6⟩
          have hF6 := hF5.below hb6
          go_wp2_with (go_at_call 14; fail)
          refine (HWI.out _ _ _ _ _ w6 hn0 hn1 hRS.out (by omega) hOn.out).mono ?_
          rintro e w7 ⟨rfl, hb7⟩
          have hF7 := hF6.below hb7
          go_wp2_with (go_at_call 16; fail)
          refine (HSD.out _ _ _ hF7 hRS.out (by omega)).mono ?_
          rintro e w8 ⟨rfl, hb8⟩
          have hF8 := hF7.below hb8
          go_wp2
          go_roundw
          case rel => exact ⟨j + 1, _, -1, by omega, by go_num, rfl, (show Hid _ from hRS.out), (show Hid _ from hOn.out), hF8⟩
          case measure => simp only [intOf]; omega
    · obtain rfl : j = n := by omega
      clear HP0 HP1 HWI HSD
      go_wp2_with (go_at_call 5; (with_reducible refine (HL.out _).mono ?_); rintro e w4 ⟨rfl, hb4⟩)
      go_ret
      exact ⟨rfl, below_then hQ.2 hQ.2.size hb4⟩
end Go.Proofs.Ytabdipfpfbdghaa
