/- DeviceOnce, walked. -/
import Derived.Test.YtdfncmhbbhmgfaaDevLives
import Derived.Test.YtdfncmhbbhmgfaaDevSmall
import Derived.Test.YtdfncmhbbhmgfaaOncePlain
import Derived.Test.YtdfncmhbbhmgfaaAppZeros
namespace Go.Proofs.Ytdfncmhbbhmgfaa
open Go.RowKit
theorem info_int : (Try.prog.info? 3).map (fun i => (i.zero, i.size, i.bytes)) = some (some (.int .i64 0), 1, 8) := by kernel_rfl
theorem Dev.below {w w1 : World} {b base : Nat} {room : Int} {l : List Rq} {last done : Int} {v : Value} (h : Dev w b base room l last done v) (hb : Below w.heap.size w w1) : Dev w1 b base room l last done v :=
  ⟨h.room_.below hb, h.row.below hb, h.last_.below hb, h.done_.below hb, own_below h.own hb, h.apart⟩
theorem rq_read {w : World} {ad : Addr} {n c : Nat} {l : List Rq} (h : Rds w 5 (some ad) n c (rqs l)) (k : Nat) (r : Rq) (hk : l[k]? = some r) :
    w.cell? (ad.add (k * 5)) = some (.int .i64 r.id) ∧ w.cell? ⟨(ad.add (k * 5)).block, (ad.add (k * 5)).off + 1, none⟩ = some (.int .i64 r.space) ∧ w.cell? ⟨(ad.add (k * 5)).block, (ad.add (k * 5)).off + 2, none⟩ = some (.int .i64 r.thread) ∧
    w.cell? ⟨(ad.add (k * 5)).block, (ad.add (k * 5)).off + 3, none⟩ = some (.int .i64 r.kind) ∧ w.cell? ⟨(ad.add (k * 5)).block, (ad.add (k * 5)).off + 4, none⟩ = some (.int .i64 r.size) := by
  have h1 := rq_cells h k r hk
  exact ⟨h1 0 _ rfl, h1 1 _ rfl, h1 2 _ rfl, h1 3 _ rfl, h1 4 _ rfl⟩
set_option maxRecDepth 100000 in
set_option maxHeartbeats 4000000 in
theorem once_lives (A : Option Addr) (m c : Nat) (A2 : Option Addr) (m2 c2 : Nat) (w : World) (h : 40 < m ∨ 60 < m2) :
    Calls Try.prog 3 #[.slice A m c, .slice A2 m2 c2] w fun e w' => e = .returned (.bool true) ∧ Below w.heap.size w w' := by
  by_cases h1 : 40 < m
  · have h2 : decide ((m : Int) > 40) = true := by simp; omega
    clear h
    go_enter Try.func3, Try.ntmps3
    go_wp2_with (go_at_call 7; refine (lives11 _).mono ?_; rintro e w1 ⟨rfl, hb1⟩)
    go_ret
    exact ⟨rfl, hb1⟩
  · have h2 : decide ((m : Int) > 40) = false := by simp; omega
    have h3 : decide ((m2 : Int) > 60) = true := by simp; omega
    clear h
    go_enter Try.func3, Try.ntmps3
    go_wp2_with (go_at_call 7; refine (lives11 _).mono ?_; rintro e w1 ⟨rfl, hb1⟩)
    go_ret
    exact ⟨rfl, hb1⟩
set_option maxRecDepth 100000 in
set_option maxHeartbeats 4000000 in
theorem once_walk (A : Option Addr) (m c : Nat) (l0 : List Rq) (A2 : Option Addr) (m2 c2 : Nat) (ps : List Int) (w : World) (hr : Rds w 5 A m c (rqs l0)) (hr2 : Rds w 1 A2 m2 c2 (nums .i64 ps)) (h1 : m ≤ 40) (h2 : m2 ≤ 60) :
    Calls Try.prog 3 #[.slice A m c, .slice A2 m2 c2] w fun e w' => e = .returned (.bool true) ∧ Below w.heap.size w w' := by
  obtain ⟨b, hb⟩ : ∃ b, b = w.heap.size := ⟨_, rfl⟩
  have d1 : decide ((m : Int) > 40) = false := by simp; omega
  have d2 : decide ((m2 : Int) > 60) = false := by simp; omega
  have HM : Hid (l0.length = m) := by have := hr.len; rw [rqs_length] at this; show _ = _; omega
  go_enter Try.func3, Try.ntmps3
  go_wp2_with (go_at_call 8; refine (dnew_yes 40 _ (by decide) (by decide)).mono ?_; rintro e w1 ⟨rfl, hb1, hs1, hd1⟩)
  rw [← hb] at hb1 hs1 hd1 ⊢
  have HB := Lib.hid hb
  clear hb
  go_loopw [6, 31] (fun nn i wr => ∃ k : Nat, k ≤ m ∧ i = .int .i64 k ∧ ∃ (acc : List Rq) (v : Value), nn = .int .i64 acc.length ∧ Hid (acc = accL (l0.take k)) ∧ acc.length ≤ k ∧ Dev wr b (b + 1) 40 acc acc.length 0 v ∧ Below b w wr ∧ b + 1 ≤ wr.heap.size) (fun _ i _ => m - (intOf i).toNat)
  case atStart => exact ⟨0, Nat.zero_le _, rfl, [], _, rfl, rfl, Nat.le_refl _, hd1, hb1, hs1⟩
  case round =>
    obtain ⟨k, hk, rfl, acc, v, rfl, HA, hac, hd, hbw, hsz⟩ := hrel
    clear hd1 hb1 hs1
    by_cases hlt : k < m
    · obtain ⟨ad, rfl⟩ := hr.some_ (by omega)
      have hkx : k < l0.length := by rw [HM.out]; exact hlt
      have hg : l0[k]? = some l0[k] := List.getElem?_eq_getElem hkx
      have hbw2 : Below w.heap.size w wr := by rw [← HB.out]; exact hbw
      obtain ⟨hc0, hc1, hc2, hc3, hc4⟩ := rq_read (hr.below hbw2) k _ hg
      have hsn : accL (l0.take (k + 1)) = accR acc l0[k] := by rw [List.take_succ_eq_append_getElem hkx, accL_snoc, ← HA.out]
      obtain ⟨r, hrr⟩ : ∃ r, r = l0[k] := ⟨_, rfl⟩
      rw [← hrr] at hc0 hc1 hc2 hc3 hc4 hsn
      have HSN := Lib.hid hsn
      clear hrr hg hsn hkx
      obtain ⟨r1, r2, r3, r4, r5⟩ := r
      simp only at hc0 hc1 hc2 hc3 hc4
      have hal : Below wr.heap.size wr (wr.alloc (.cells #[.int .i64 r1, .int .i64 r2, .int .i64 r3, .int .i64 r4, .int .i64 r5] 28)) := below_al (Below.refl _ _) _
      cases hgd : goodR ⟨r1, r2, r3, r4, r5⟩ with
      | true =>
        have HS := Lib.hid (dstart_ok b (b + 1) 40 acc acc.length 0 v ⟨r1, r2, r3, r4, r5⟩ _ (hd.below hal) (Nat.le_trans hsz hal.size) (by decide) hgd (by omega) (by decide) (by omega) (by omega))
        simp only [rqV] at HS
        have HAN : Hid (acc ++ [⟨acc.length + 1, r2, r3, r4, r5⟩] = accL (l0.take (k + 1))) := by show _ = _; rw [HSN.out]; unfold accR; rw [hgd]; rfl
        have hown0 := hd.own
        clear hgd HSN HA
        go_wp2_with ((with_reducible refine HS.out.mono ?_); rintro e w2 ⟨rfl, hc2', v2, hd2, hv2⟩)
        go_roundw
        case rel =>
          refine ⟨k + 1, by omega, by go_num, _, v2, by simp, HAN, by simp; omega, ?_, hc2'.toBelow (below_then hbw (by omega) hal) (by simp; omega) ?_, Nat.le_trans (Nat.le_trans hsz hal.size) hc2'.size⟩
          · rw [List.length_append, List.length_singleton]
            exact hd2
          · rintro q (e | e)
            · omega
            · have := own_base hown0 q e
              omega
        case measure => simp [intOf]; omega
      | false =>
        have HS := Lib.hid (dstart_bad b (b + 1) 40 acc acc.length 0 v ⟨r1, r2, r3, r4, r5⟩ _ (hd.below hal) (by decide) hgd)
        simp only [rqV] at HS
        have HAN : Hid (acc = accL (l0.take (k + 1))) := by show _ = _; rw [HSN.out]; unfold accR; rw [hgd]; rfl
        clear hgd HSN HA
        go_wp2_with ((with_reducible refine HS.out.mono ?_); rintro e w2 ⟨rfl, hb2⟩)
        go_roundw
        case rel => exact ⟨k + 1, by omega, by go_num, acc, v, rfl, HAN, by omega, (hd.below hal).below hb2, below_then (below_then hbw (by omega) hal) (by simp; omega) hb2, by have := hb2.size; simp at this; omega⟩
        case measure => simp [intOf]; omega
    · obtain rfl : k = m := by omega
      obtain ⟨W3, rfl⟩ : ∃ x, x = wr := ⟨_, rfl⟩
      have hbw2 : Below w.heap.size w W3 := by rw [← HB.out]; exact hbw
      have hgs : b + 1 ≤ W3.heap.size := hsz
      have hal0 : Below W3.heap.size W3 (W3.alloc (.cells #[.int .i64 0, .int .i64 0, .int .i64 0, .int .i64 0, .int .i64 0, .int .i64 0, .int .i64 0, .int .i64 0, .int .i64 0, .int .i64 0, .int .i64 0, .int .i64 0, .int .i64 0, .int .i64 0, .int .i64 0, .int .i64 0, .int .i64 0, .int .i64 0, .int .i64 0, .int .i64 0, .int .i64 0, .int .i64 0, .int .i64 0, .int .i64 0, .int .i64 0, .int .i64 0, .int .i64 0, .int .i64 0, .int .i64 0, .int .i64 0, .int .i64 0, .int .i64 0, .int .i64 0, .int .i64 0, .int .i64 0, .int .i64 0, .int .i64 0, .int .i64 0, .int .i64 0, .int .i64 0, .int .i64 0] 32)) := below_al (Below.refl _ _) _
      have hse0 : (W3.alloc (.cells #[.int .i64 0, .int .i64 0, .int .i64 0, .int .i64 0, .int .i64 0, .int .i64 0, .int .i64 0, .int .i64 0, .int .i64 0, .int .i64 0, .int .i64 0, .int .i64 0, .int .i64 0, .int .i64 0, .int .i64 0, .int .i64 0, .int .i64 0, .int .i64 0, .int .i64 0, .int .i64 0, .int .i64 0, .int .i64 0, .int .i64 0, .int .i64 0, .int .i64 0, .int .i64 0, .int .i64 0, .int .i64 0, .int .i64 0, .int .i64 0, .int .i64 0, .int .i64 0, .int .i64 0, .int .i64 0, .int .i64 0, .int .i64 0, .int .i64 0, .int .i64 0, .int .i64 0, .int .i64 0, .int .i64 0] 32)).ownsRow W3.heap.size 32 1 (.slice (some ⟨W3.heap.size, 0, none⟩) 41 41) 41 (nums .i64 (List.replicate 41 0)) := World.ownsRow_lit W3 _ 41 (Nat.le_refl _) (by decide) rfl
      have hsz0 : (W3.alloc (.cells #[.int .i64 0, .int .i64 0, .int .i64 0, .int .i64 0, .int .i64 0, .int .i64 0, .int .i64 0, .int .i64 0, .int .i64 0, .int .i64 0, .int .i64 0, .int .i64 0, .int .i64 0, .int .i64 0, .int .i64 0, .int .i64 0, .int .i64 0, .int .i64 0, .int .i64 0, .int .i64 0, .int .i64 0, .int .i64 0, .int .i64 0, .int .i64 0, .int .i64 0, .int .i64 0, .int .i64 0, .int .i64 0, .int .i64 0, .int .i64 0, .int .i64 0, .int .i64 0, .int .i64 0, .int .i64 0, .int .i64 0, .int .i64 0, .int .i64 0, .int .i64 0, .int .i64 0, .int .i64 0, .int .i64 0] 32)).heap.size = W3.heap.size + 1 := by simp
      go_upto_region 17 with fail
      generalize W3.alloc (.cells #[.int .i64 0, .int .i64 0, .int .i64 0, .int .i64 0, .int .i64 0, .int .i64 0, .int .i64 0, .int .i64 0, .int .i64 0, .int .i64 0, .int .i64 0, .int .i64 0, .int .i64 0, .int .i64 0, .int .i64 0, .int .i64 0, .int .i64 0, .int .i64 0, .int .i64 0, .int .i64 0, .int .i64 0, .int .i64 0, .int .i64 0, .int .i64 0, .int .i64 0, .int .i64 0, .int .i64 0, .int .i64 0, .int .i64 0, .int .i64 0, .int .i64 0, .int .i64 0, .int .i64 0, .int .i64 0, .int .i64 0, .int .i64 0, .int .i64 0, .int .i64 0, .int .i64 0, .int .i64 0, .int .i64 0] 32) = W4 at hal0 hse0 hsz0 ⊢
      have hal1 : ∀ o, Below W4.heap.size W4 (W4.alloc o) := fun o => below_al (Below.refl _ _) o
      have hlit : (W4.alloc (.cells #[] 3)).ownsRow W4.heap.size 3 1 (.slice (some ⟨W4.heap.size, 0, none⟩) 0 0) 0 [] := World.ownsRow_lit W4 #[] 0 (Nat.le_refl _) (Nat.zero_le _) rfl
      have HSZ := Lib.hid hsz0
      clear hsz0
      have hr3 := hr2.below (below_tr hbw2 hal0)
      go_wp2_with (at_builtin; first | (refine apn (w0 := W4) W4.heap.size rfl _ _ 23 3 _ 1 8 (by rfl) Try.underlying23 info_int rfl (by decide) (by decide) _ 0 [] A2 m2 c2 (nums .i64 ps) (by rfl) (by rfl) (hr3.below (hal1 _)) (nums_one _ _) hlit (hal1 _) (hal1 _).size (by omega) ?_; intro v5 w5 ho5 hb5 hg5 _) | (refine apz (w0 := W4) W4.heap.size rfl _ _ 23 3 3 _ 8 .i64 .i64 (by rfl) Try.underlying23 Try.underlying3 info_int rfl rfl (by decide) _ _ _ 40 (by rfl) (by rfl) (by decide) ho5 hb5 hb5.size (by omega) ?_; intro v6 w6 ho6 hb6 hg6; obtain ⟨A6, n6, c6, rfl, hn6, hr6⟩ := own_open ho6))
      obtain ⟨xs, hxs⟩ : ∃ xs : List Int, xs = ps ++ List.replicate 40 0 := ⟨_, rfl⟩
      have hr7 : Rds w6 1 A6 n6 c6 (nums .i64 xs) := by
        have e : ([] ++ nums .i64 ps ++ List.replicate 40 (Value.int .i64 0)) = nums .i64 xs := by rw [hxs]; simp [nums]
        rw [← e]; exact hr6
      have HN6 : Hid (n6 = m2 + 40) := by have := hn6.out; show _ = _; omega
      have hblk : ∀ ad, A6 = some ad → W3.heap.size < ad.block := by
        intro ad e
        subst e
        have := (ho6.lt ad.block rfl).1
        rw [HSZ.out] at this
        omega
      have hst := still_first (taken_accL (l0.take k)) (by rw [← HA.out]; omega)
      rw [← HA.out] at hst
      have HST := Lib.hid hst
      have hd6 := (hd.below hal0).below hb6
      have hse6 := own_below hse0 hb6
      have hb36 := below_then hal0 (by have := HSZ.out; omega) hb6
      have hvb : ∀ q, v.ownBlock = some q → q ≠ W3.heap.size := fun q e => by have := (hd.own.lt q e).2; omega
      have hbw6 := below_then hbw (by omega) hb36
      have hsz6 : W3.heap.size < w6.heap.size := by have := hb6.size; have := HSZ.out; omega
      clear hst ho6 hr6 hn6 hr3 ho5 hb5 hg5 hg6 hlit hal1 hb6 hse0 hal0 hd hr hr2 hbw2 hb36 HSZ hbw
      generalize hgg : W3.heap.size = g at hgs hblk hse6 hvb hsz6 ⊢
      clear hgg
      go_loopw [58] (fun i wr => ∃ q : Nat, q ≤ n6 ∧ i = .int .i64 q ∧ ∃ (R : List Rq) (v : Value) (seen : List Int), Hid (R.length + q = acc.length) ∧ Hid (Still acc.length R seen) ∧ Dev wr b (b + 1) 40 R acc.length q v ∧
        wr.ownsRow g 32 1 (.slice (some ⟨g, 0, none⟩) 41 41) 41 (nums .i64 seen) ∧ (∀ q, v.ownBlock = some q → q ≠ g) ∧ Below b w wr ∧ Rds wr 1 A6 n6 c6 (nums .i64 xs) ∧ g < wr.heap.size) (fun i _ => n6 - (intOf i).toNat)
      case atStart => exact ⟨0, Nat.zero_le _, rfl, acc, v, _, rfl, HST, hd6, hse6, hvb, hbw6, hr7, hsz6⟩
      case round =>
        obtain ⟨q, hq, rfl, R, v, seen, HR, HST, hd, hse, hvb, hbw, hrx, hgz⟩ := hrel
        clear hd6 hse6 hbw6 hr7 hsz6
        have hn100 : n6 ≤ 100 := by have := HN6.out; omega
        have hxl : Hid (xs.length = n6) := by have := hrx.len; rw [nums_length] at this; show _ = _; omega
        by_cases hlt : q < n6
        · obtain ⟨ad, rfl⟩ := hrx.some_ (by omega)
          have hqx : q < xs.length := by rw [hxl.out]; exact hlt
          have hcx := hrx.cell ad rfl q _ (nums_get .i64 xs q hqx)
          generalize xs[q] = x at hcx
          have hnb := hblk ad rfl
          rcases Nat.eq_zero_or_pos R.length with h0 | h0
          · have hR0 : R = [] := List.eq_nil_of_length_eq_zero h0
            subst hR0
            have HS := Lib.hid (dfin_none b (b + 1) 40 acc.length q v x wr hd (by decide))
            have hqn : ((q : Int) == (acc.length : Int)) = true := by have := HR.out; simp at this; simp [this]
            clear HST hse hrx h0
            go_wp2_with ((with_reducible refine HS.out.mono ?_); rintro e w7 ⟨rfl, hb7⟩; have HDN := Lib.hid (fun W h => ddone b (b + 1) 40 [] acc.length q v W h (by decide)); have HLN := Lib.hid (fun W h => dlen b (b + 1) 40 [] acc.length q v W h (by decide)); have hd7 := hd.below hb7)
            have hal7 : ∀ o, Below w7.heap.size w7 (w7.alloc o) := fun o => below_al (Below.refl _ _) o
            have HLV := Lib.hid (fun W => lives11 W)
            go_wp2_with (first | (go_at_call 11; (with_reducible refine (HDN.out _ (hd7.below (hal7 _))).mono ?_); rintro e w8 ⟨rfl, rfl⟩) | (go_at_call 12; (with_reducible refine (HLN.out _ (hd7.below (hal7 _))).mono ?_); rintro e w8 ⟨rfl, rfl⟩) | (go_at_call 7; (with_reducible refine (HLV.out _).mono ?_); rintro e w8 ⟨rfl, hb8⟩))
            go_ret
            exact ⟨rfl, by rw [← HB.out]; exact below_then (below_then (below_then hbw (by omega) hb7) (by have := hb7.size; omega) (hal7 _)) (by have := hb7.size; simp; omega) hb8⟩
          · obtain ⟨i, hi⟩ : ∃ i : Nat, (i : Int) = max x 0 % R.length := ⟨(max x 0 % R.length).toNat, Int.toNat_of_nonneg (Int.emod_nonneg _ (by omega))⟩
            have hil : i < R.length := by have := Int.emod_lt_of_pos (max x 0) (show (0 : Int) < R.length by omega); omega
            have hri : R[i]? = some R[i] := List.getElem?_eq_getElem hil
            obtain ⟨r, hrr⟩ : ∃ r, r = R[i] := ⟨_, rfl⟩
            rw [← hrr] at hri
            have hmem : r ∈ R := hrr ▸ List.getElem_mem hil
            have hlr := HR.out
            have HS := Lib.hid (dfin_ok b (b + 1) 40 R acc.length q v x i r wr hd (by omega) (by decide) h0 (by omega) hi hri (by omega) (by omega))
            have hrs := resV_read r (HST.out.good r hmem) (by have := HST.out.ids r hmem; omega)
            have hkd := hrs.2.2
            have hst := still_next HST.out i r hri
            have hsr := HST.out.none r hmem
            have hidr := HST.out.ids r hmem
            have hsl := HST.out.len
            obtain ⟨r1, r2, r3, r4, r5⟩ := r
            simp only at hst hsr hidr hkd
            obtain ⟨j, rfl⟩ : ∃ j : Nat, r1 = j := ⟨r1.toNat, by omega⟩
            simp only [Int.toNat_natCast] at hst hsr
            have HST2 := Lib.hid hst
            have hrl : Hid ((R.eraseIdx i).length + (q + 1) = acc.length) := by show _ = _; rw [List.length_eraseIdx_of_lt hil]; omega
            have hsl2 : (nums .i64 seen).length = 41 := by simp [nums, hsl]
            have hj40 : j < 41 := by omega
            have HSR := Lib.hid hsr
            clear hst hsr hri hrr hmem hlr HST hi hil hsl
            obtain ⟨rv, hrv⟩ : ∃ rv, rv = resV ⟨(j : Int), r2, r3, r4, r5⟩ := ⟨_, rfl⟩
            rw [← hrv] at hrs hkd HS
            simp only [rqV] at HS
            have hrs1 := hrs.1
            have hrs2 := hrs.2.1
            clear hrs hrv
            have hbound : b < wr.heap.size := by omega
            have hgb : ¬ g = b := by omega
            have fin : ∀ w7, Chg (fun k => k = b) wr w7 → (∃ v', Dev w7 b (b + 1) 40 (R.eraseIdx i) acc.length (q + 1) v' ∧ ∃ k, v'.ownBlock = some k ∧ wr.heap.size ≤ k) → ∃ W8, W8 = w7.alloc (.cells #[.int .i64 j, .int .i64 r2, .int .i64 r3, .int .i64 r4, .int .i64 r5] 28) ∧
                W8.cell? ⟨g, j, none⟩ = some (.int .i64 0) ∧ W8.frozen? ⟨g, j, none⟩ = false ∧
                Hid (∃ (R : List Rq) (v : Value) (seen : List Int), Hid (R.length + (q + 1) = acc.length) ∧ Hid (Still acc.length R seen) ∧ Dev (W8.setCell ⟨g, j, none⟩ (.int .i64 1)) b (b + 1) 40 R acc.length (q + 1) v ∧
                  (W8.setCell ⟨g, j, none⟩ (.int .i64 1)).ownsRow g 32 1 (.slice (some ⟨g, 0, none⟩) 41 41) 41 (nums .i64 seen) ∧ (∀ q, v.ownBlock = some q → q ≠ g) ∧ Below b w (W8.setCell ⟨g, j, none⟩ (.int .i64 1)) ∧ Rds (W8.setCell ⟨g, j, none⟩ (.int .i64 1)) 1 (some ad) n6 c6 (nums .i64 xs) ∧ g < (W8.setCell ⟨g, j, none⟩ (.int .i64 1)).heap.size) := by
              rintro w7 hc7 ⟨v', hd7, kk, hk1, hk2⟩
              have hal7 : Below w7.heap.size w7 (w7.alloc (.cells #[.int .i64 j, .int .i64 r2, .int .i64 r3, .int .i64 r4, .int .i64 r5] 28)) := below_al (Below.refl _ _) _
              have hse8 := own_below (hc7.own hse (by intro k e; have e2 : k = g := by cases e; rfl
                                                      omega)) hal7
              have hd8 := hd7.below hal7
              have hb8 : Below b w (w7.alloc (.cells #[.int .i64 j, .int .i64 r2, .int .i64 r3, .int .i64 r4, .int .i64 r5] 28)) := below_then (hc7.toBelow hbw (by omega) (fun k e => by omega)) (by have := hc7.size; omega) hal7
              have hrx8 := (hc7.rds hrx (fun ad e => by cases e; omega)).below hal7
              have hg8 : g < (w7.alloc (.cells #[.int .i64 j, .int .i64 r2, .int .i64 r3, .int .i64 r4, .int .i64 r5] 28)).heap.size := by have := hc7.size; have := hal7.size; omega
              refine ⟨_, rfl, ?_, ?_, ?_⟩
              · rw [hse8.cellAt j (by omega)]
                simp [nums, HSR.out]
              · exact hse8.frozenAt j
              · generalize (w7.alloc (.cells #[.int .i64 j, .int .i64 r2, .int .i64 r3, .int .i64 r4, .int .i64 r5] 28)) = W8 at hse8 hd8 hb8 hrx8 hg8
                have hst := hse8.stored j (.int .i64 1)
                have hns : (nums .i64 seen).set j (.int .i64 1) = nums .i64 (seen.set j 1) := by simp [nums, List.map_set]
                rw [hns] at hst
                have hch : Chg (fun k => k = g) W8 (W8.setCell ⟨g, j, none⟩ (.int .i64 1)) := (Chg.refl (fun k => k = g) W8).setCell g j _ rfl
                refine ⟨R.eraseIdx i, v', seen.set j 1, hrl, HST2, ⟨hd8.room_.keep hch (by omega), hd8.row.keep hch (by omega), hd8.last_.keep hch (by omega), hd8.done_.keep hch (by omega), hch.own hd8.own (by rintro k e; rw [hk1] at e; cases e; omega), hd8.apart⟩, hst.1, ?_, hch.toBelow hb8 (by omega) (fun k e => by omega), hch.rds hrx8 (fun ad e => by cases e; omega), by simpa using hg8⟩
                rintro q e
                rw [hk1] at e
                cases e
                omega
            have FIN := Lib.hid fin
            clear fin HST2 hrl HSR hse hd hrx hbw hvb hsl2
            by_cases hk2 : r4 = 2
            · subst hk2
              obtain rfl := hkd rfl
              clear hkd
              go_wp2_with ((with_reducible refine HS.out.mono ?_); rintro e w7 ⟨rfl, hc7, hd7⟩; obtain ⟨W8, hW8, hx8, hf8, h8⟩ := FIN.out w7 hc7 hd7; subst hW8; have hne7 : g ≠ w7.heap.size := (by have := hc7.size; omega); have hne8 : w7.heap.size ≠ g := (by have := hc7.size; omega); clear FIN hc7 hd7)
              go_roundw
              case rel => exact ⟨q + 1, by omega, by go_num, h8.out⟩
              case measure => simp [intOf]; omega
            · have hk3 : (r4 == 2) = false := by simp [hk2]
              clear hkd hk2
              go_wp2_with ((with_reducible refine HS.out.mono ?_); rintro e w7 ⟨rfl, hc7, hd7⟩; obtain ⟨W8, hW8, hx8, hf8, h8⟩ := FIN.out w7 hc7 hd7; subst hW8; have hne7 : g ≠ w7.heap.size := (by have := hc7.size; omega); have hne8 : w7.heap.size ≠ g := (by have := hc7.size; omega); clear FIN hc7 hd7)
              go_roundw
              case rel => exact ⟨q + 1, by omega, by go_num, h8.out⟩
              case measure => simp [intOf]; omega
        · obtain rfl : q = n6 := by omega
          have hR0 : R = [] := by
            apply List.eq_nil_of_length_eq_zero
            have h1 := HR.out
            have h2 := HN6.out
            omega
          subst hR0
          have hqn : ((q : Int) == (acc.length : Int)) = true := by have := HR.out; simp at this; simp [this]
          have HDN := Lib.hid (ddone b (b + 1) 40 [] acc.length q v wr hd (by decide))
          have HLN := Lib.hid (dlen b (b + 1) 40 [] acc.length q v wr hd (by decide))
          have HLV := Lib.hid (fun W => lives11 W)
          clear HST hse hrx HN6
          go_wp2_with (first | (go_at_call 11; (with_reducible refine HDN.out.mono ?_); rintro e w8 ⟨rfl, rfl⟩) | (go_at_call 12; (with_reducible refine HLN.out.mono ?_); rintro e w8 ⟨rfl, rfl⟩) | (go_at_call 7; (with_reducible refine (HLV.out _).mono ?_); rintro e w8 ⟨rfl, hb8⟩))
          go_ret
          exact ⟨rfl, by rw [← HB.out]; exact below_then hbw (by omega) hb8⟩
end Go.Proofs.Ytdfncmhbbhmgfaa
