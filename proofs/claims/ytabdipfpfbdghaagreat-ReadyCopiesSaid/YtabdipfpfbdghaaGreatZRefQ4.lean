/- The reference's queue: New, Take and the like, Lower, Pick. -/
import Derived.Test.YtabdipfpfbdghaaGreatZRefQ3
import Derived.Test.YtabdipfpfbdghaaGreatZReaLow
import Derived.Test.YtabdipfpfbdghaaGreatZDigSum
namespace Go.Proofs.YtabdipfpfbdghaaGreat
open Go.RowKit
variable {w : World} {base mb mg n c : Nat} {now : Int} {rows : List RowQ}
theorem info_rowR : (Tryz.prog.info? TR).map (fun i => (i.zero, i.size, i.bytes)) = some (some (.agg #[.int .i64 0, .int .i64 0, .int .i64 0, .int .i64 0]), 4, 32) := by kernel_rfl
set_option maxHeartbeats 1000000 in
theorem mnewNo (z : Int) (w : World) (hz : z < 1 ∨ 4096 < z) : Calls Tryz.prog 8 #[.int .i64 z] w fun e w' => e = .returned (.pointer none) ∧ w = w' := by
  by_cases h1 : z < 1
  · go_enter Tryz.func8, Tryz.ntmps8
    go_wp2
    go_ret
    exact ⟨rfl, rfl⟩
  · have h2 : 4096 < z := by omega
    go_enter Tryz.func8, Tryz.ntmps8
    go_wp2
    go_ret
    exact ⟨rfl, rfl⟩
set_option maxRecDepth 100000 in
set_option maxHeartbeats 4000000 in
theorem mnew (n : Nat) (z : Int) (hz : z = (n : Int)) (w : World) (h1 : 1 ≤ n) (h2 : n ≤ 4096) : Calls Tryz.prog 8 #[.int .i64 z] w fun e w' => ∃ mb mg, e = .returned (.pointer (some ⟨mb, 0, none⟩)) ∧ Hid (Mq w' w.heap.size mb mg n n 0 (List.replicate n row0)) ∧ Hid (w.heap.size ≤ mg) ∧ Hid (Below w.heap.size w w') := by
  subst hz
  have hx1 : ¬ ((n : Int) < 1) := by omega
  have hx2 : ¬ (4096 < (n : Int)) := by omega
  go_enter Tryz.func8, Tryz.ntmps8
  go_wp2_with (at_make; refine mkn (w0 := w) w.heap.size (by rfl) _ _ 53 TR _ 4 32 (by rfl) Tryz.underlying53 info_rowR _ _ _ _ n (by rfl) (by rfl) rfl rfl (by omega) (by unfold maxLen; omega) (Below.refl _ _) (Nat.le_refl _) ?_; intro w2 ho2 hb2 hg2)
  rw [made_rows] at ho2
  obtain ⟨W3, hW3⟩ : ∃ W3, W3 = w2.alloc (.cells #[.int .i64 0, .slice (some ⟨w.heap.size, 0, none⟩) n n] (55 : Nat)) := ⟨_, rfl⟩
  have hB3 : Below w2.heap.size w2 W3 := by rw [hW3]; exact below_al (Below.refl _ _) _
  have x0 : Box W3 w2.heap.size 0 (.int .i64 0) := by rw [hW3]; constructor <;> go_simp
  have x1 : Box W3 w2.heap.size 1 (.slice (some ⟨w.heap.size, 0, none⟩) n n) := by rw [hW3]; constructor <;> go_simp
  rw [← hW3]
  have s4 := (ho2.lt w.heap.size rfl).2
  have s5 := hb2.size
  refine bodyPost_ret (results_tmp rfl _ _ _) rfl ⟨w2.heap.size, rfl, w.heap.size, Lib.hid ⟨x0, x1, own_below ho2 hB3, by omega, by omega⟩, Lib.hid (Nat.le_refl _), Lib.hid (below_then hb2 (by omega) hB3)⟩
theorem mtakeW {R : Int → World → Prop} (z : Int) (H : Calls Tryz.prog 64 #[.pointer (some ⟨mb, 0, none⟩), .int .i64 z, .int .i64 1, .int .i64 2, .bool false] w fun e w' => ∃ r, e = .returned (.int .i64 r) ∧ R r w') :
    Calls Tryz.prog 28 #[.pointer (some ⟨mb, 0, none⟩), .int .i64 z] w fun e w' => ∃ r, e = .returned (.int .i64 r) ∧ R r w' := by
  have HH := Lib.hid H
  clear H
  go_enter Tryz.func28, Tryz.ntmps28
  go_wp2_with (go_at_call 64; (with_reducible refine HH.out.mono ?_); rintro e w1 ⟨r, rfl, hr⟩)
  go_ret
  exact ⟨r, rfl, hr⟩
theorem mbackW {R : Int → World → Prop} (z : Int) (H : Calls Tryz.prog 64 #[.pointer (some ⟨mb, 0, none⟩), .int .i64 z, .int .i64 2, .int .i64 1, .bool true] w fun e w' => ∃ r, e = .returned (.int .i64 r) ∧ R r w') :
    Calls Tryz.prog 29 #[.pointer (some ⟨mb, 0, none⟩), .int .i64 z] w fun e w' => ∃ r, e = .returned (.int .i64 r) ∧ R r w' := by
  have HH := Lib.hid H
  clear H
  go_enter Tryz.func29, Tryz.ntmps29
  go_wp2_with (go_at_call 64; (with_reducible refine HH.out.mono ?_); rintro e w1 ⟨r, rfl, hr⟩)
  go_ret
  exact ⟨r, rfl, hr⟩
theorem mblockW {R : Int → World → Prop} (z : Int) (H : Calls Tryz.prog 64 #[.pointer (some ⟨mb, 0, none⟩), .int .i64 z, .int .i64 2, .int .i64 3, .bool false] w fun e w' => ∃ r, e = .returned (.int .i64 r) ∧ R r w') :
    Calls Tryz.prog 31 #[.pointer (some ⟨mb, 0, none⟩), .int .i64 z] w fun e w' => ∃ r, e = .returned (.int .i64 r) ∧ R r w' := by
  have HH := Lib.hid H
  clear H
  go_enter Tryz.func31, Tryz.ntmps31
  go_wp2_with (go_at_call 64; (with_reducible refine HH.out.mono ?_); rintro e w1 ⟨r, rfl, hr⟩)
  go_ret
  exact ⟨r, rfl, hr⟩
theorem mwakeW {R : Int → World → Prop} (z : Int) (H : Calls Tryz.prog 64 #[.pointer (some ⟨mb, 0, none⟩), .int .i64 z, .int .i64 3, .int .i64 1, .bool true] w fun e w' => ∃ r, e = .returned (.int .i64 r) ∧ R r w') :
    Calls Tryz.prog 33 #[.pointer (some ⟨mb, 0, none⟩), .int .i64 z] w fun e w' => ∃ r, e = .returned (.int .i64 r) ∧ R r w' := by
  have HH := Lib.hid H
  clear H
  go_enter Tryz.func33, Tryz.ntmps33
  go_wp2_with (go_at_call 64; (with_reducible refine HH.out.mono ?_); rintro e w1 ⟨r, rfl, hr⟩)
  go_ret
  exact ⟨r, rfl, hr⟩
theorem mresumeW {R : Int → World → Prop} (z : Int) (H : Calls Tryz.prog 64 #[.pointer (some ⟨mb, 0, none⟩), .int .i64 z, .int .i64 3, .int .i64 2, .bool false] w fun e w' => ∃ r, e = .returned (.int .i64 r) ∧ R r w') :
    Calls Tryz.prog 35 #[.pointer (some ⟨mb, 0, none⟩), .int .i64 z] w fun e w' => ∃ r, e = .returned (.int .i64 r) ∧ R r w' := by
  have HH := Lib.hid H
  clear H
  go_enter Tryz.func35, Tryz.ntmps35
  go_wp2_with (go_at_call 64; (with_reducible refine HH.out.mono ?_); rintro e w1 ⟨r, rfl, hr⟩)
  go_ret
  exact ⟨r, rfl, hr⟩
set_option maxRecDepth 100000 in
set_option maxHeartbeats 8000000 in
/-- Lower. -/
theorem mlower (M : Mq w base mb mg n c now rows) (hn : n ≤ 4096) (hnow : I64 now) (hps : ∀ x, x < n → I64 (rows.getD x row0).ps ∧ I64 ((rows.getD x row0).ps - now)) :
    Calls Tryz.prog 38 #[.pointer (some ⟨mb, 0, none⟩)] w fun e w' => e = .returned (.int .i64 now) ∧ Hid (Mq w' base mb mg n c 0 (lowRows rows now)) ∧ Hid (Chg (Ms mb mg) w w') := by
  have k1 := M.rb.cell
  have HM := Lib.hid M
  have HLN := Lib.hid M.len
  have HPS := Lib.hid hps
  have HNW := Lib.hid hnow
  clear M hps hnow
  go_enter Tryz.func38, Tryz.ntmps38
  go_wp2
  go_loopw [14] (fun i wr => ∃ (j : Nat), j ≤ n ∧ i = .int .i64 j ∧ Hid (Below w.heap.size w wr)) (fun i _ => n - (intOf i).toNat)
  case atStart => exact ⟨0, Nat.zero_le _, rfl, Lib.hid (Below.refl _ _)⟩
  case round =>
    obtain ⟨j, hjn0, rfl, HB⟩ := hrel
    by_cases hjn : j < n
    · have hjn' : (j : Int) < (n : Int) := by omega
      have M1 := HM.out.below HB.out
      obtain ⟨r0, r1, r2, r3⟩ := M1.row hjn
      have c0 := r0.cell
      have c1 := r1.cell
      have c2 := r2.cell
      have c3 := r3.cell
      have hp := HPS.out j hjn
      obtain ⟨r, hr⟩ : ∃ r, rows.getD j row0 = r := ⟨_, rfl⟩
      rw [hr] at c0 c1 c2 c3 hp
      obtain ⟨W5, hW5⟩ : ∃ W5, W5 = wr.alloc (.cells #[.int .i64 r.st, .int .i64 r.tk, .int .i64 r.ps, .int .i64 r.pk] (58 : Nat)) := ⟨_, rfl⟩
      have hal : Below wr.heap.size wr W5 := by rw [hW5]; exact below_al (Below.refl _ _) _
      have y0 : W5.cell? ⟨wr.heap.size, 0, none⟩ = some (.int .i64 r.st) := by rw [hW5]; go_simp
      have y2 : W5.cell? ⟨wr.heap.size, 2, none⟩ = some (.int .i64 r.ps) := by rw [hW5]; go_simp
      have HB5 := Lib.hid (below_then HB.out HB.out.size hal)
      have M5 := HM.out.below HB5.out
      have HSB := Lib.hid (fun W => dSub r.ps now W hp.1 HNW.out)
      rw [(fit_yes hp.2).1, (fit_yes hp.2).2] at HSB
      have kn := M5.nb.cell
      obtain ⟨B5, hB5⟩ : ∃ x, x = wr.heap.size := ⟨_, rfl⟩
      rw [← hB5] at y0 y2
      have HY0 := Lib.hid y0
      obtain ⟨st, hst⟩ : ∃ x, r.st = x := ⟨_, rfl⟩
      obtain ⟨ps, hpe⟩ : ∃ x, r.ps = x := ⟨_, rfl⟩
      rw [hst] at HY0
      rw [hpe] at y2 HSB
      have z2 := fun (p : Behind W5) => cell_below p.hb y2
      have z3 := fun (p : Behind W5) => cell_below p.hb kn
      have q3 := fun (p : Behind W5) => (HSB.out p.W).mono (fun e W' (h : _ ∧ Below p.W.heap.size p.W W') => (⟨h.1, ⟨W', below_tr p.hb h.2⟩, rfl⟩ : e = _ ∧ ∃ p' : Behind W5, W' = p'.W))
      clear r0 r1 r2 r3 M1 M5 hr hp y0 y2 hst hpe kn
      go_wp2_with fail
      rw [← hW5, ← hB5]
      clear hB5 hW5 hal c0 c1 c2 c3
      refine wp_behind (by kernel_rfl) (by kernel_rfl) ?_
      repeat (quiet_step (exact q3 _))
      refine wpQuiet_nil ?_
      rintro W6 ⟨⟨_, hb6⟩, rfl⟩
      have y0 := cell_below hb6 HY0.out
      have HB6 := Lib.hid (below_then HB5.out HB5.out.size hb6)
      clear z2 z3 q3
      by_cases hs0 : st = 0
      · subst hs0
        go_wp2
        go_roundw
        case rel => exact ⟨j + 1, by omega, by go_num, HB6⟩
        case measure => simp only [intOf]; omega
      · have hs1 : (st != 0) = true := by simp [hs0]
        go_wp2
        go_roundw
        case rel => exact ⟨j + 1, by omega, by go_num, HB6⟩
        case measure => simp only [intOf]; omega
    · have HM1 := Lib.hid (HM.out.below HB.out)
      have HC1 : Hid (Chg (Ms mb mg) w wr) := Lib.hid (Chg.of_below HB.out)
      obtain ⟨W1, rfl⟩ : ∃ x, x = wr := ⟨_, rfl⟩
      have k1 := HM1.out.rb.cell
      go_wp2
      go_loopw [41] (fun i wr => ∃ (j : Nat), j ≤ n ∧ i = .int .i64 j ∧ Hid (Mq wr base mb mg n c now (lowTo rows now j)) ∧ Hid (Chg (Ms mb mg) w wr)) (fun i _ => n - (intOf i).toNat)
      case atStart => exact ⟨0, Nat.zero_le _, rfl, HM1, HC1⟩
      case round =>
        obtain ⟨j, hjn0, rfl, HM3, HC3⟩ := hrel
        clear k1
        by_cases hjn : j < n
        · have hjn' : (j : Int) < (n : Int) := by omega
          have k1 := HM3.out.rb.cell
          have kn := HM3.out.nb.cell
          obtain ⟨r0, _, r2, _⟩ := HM3.out.row hjn
          have hg := lowTo_get rows now j (by rw [HLN.out]; exact hjn0) j
          rw [if_neg (Nat.lt_irrefl _)] at hg
          rw [hg] at r0 r2
          have hp := HPS.out j hjn
          by_cases hst : (rows.getD j row0).st = 0
          · have es := lowTo_same rows now (show j < rows.length by rw [HLN.out]; exact hjn) hst
            have HM4 : Hid (Mq wr base mb mg n c now (lowTo rows now (j + 1))) := Lib.hid (by rw [es]; exact HM3.out)
            rw [hst] at r0
            have c0 := r0.cell
            clear r0 r2 hg es hst hp
            go_wp2
            go_roundw
            case rel => exact ⟨j + 1, by omega, by go_num, HM4, HC3⟩
            case measure => simp only [intOf]; omega
          · have hs1 : ((rows.getD j row0).st != 0) = true := by simpa using hst
            have hset : (rowC ((lowTo rows now j).getD j row0)).set 2 (.int .i64 ((rows.getD j row0).ps - now)) = rowC (lowOne now ((lowTo rows now j).getD j row0)) := by
              rw [hg]
              unfold lowOne
              rw [if_pos hst]
              rfl
            have HM4 := Lib.hid ((HM3.out.setRow hjn 2 (by decide) (.int .i64 ((rows.getD j row0).ps - now)) _ hset).below (below_dr (Below.refl _ _) 1))
            have HC4 : Hid (Chg (Ms mb mg) w ((wr.setCell ⟨mg, j * 4 + 2, none⟩ (.int .i64 ((rows.getD j row0).ps - now))).drewN 1)) := Lib.hid ((chg_mg HC3.out).drewN 1)
            have ws := sub_wrap hp.2
            generalize (rows.getD j row0).st = st at r0 hs1
            generalize (rows.getD j row0).ps = ps at r2 HM4 ws HC4
            have c0 := r0.cell
            have c2 := r2.cell
            have f2 := r2.free
            clear r0 r2 hg hst hp hset
            go_wp2
            go_big_region
            change Hid (Mq (World.drew _) _ _ _ _ _ _ _) at HM4
            change Hid (Chg _ _ (World.drew _)) at HC4
            go_wp2
            go_roundw
            case rel => exact ⟨j + 1, by omega, by go_num, HM4, HC4⟩
            case measure => simp only [intOf]; omega
        · obtain rfl : n = j := by omega
          have HM4 := Lib.hid (HM3.out.setNow 0)
          have HC4 := Lib.hid (chg_mb (i := 0) (v := .int .i64 0) HC3.out)
          have c0 := HM3.out.nb.cell
          have f0 := HM3.out.nb.free
          have HE : Hid (lowRows rows now = lowTo rows now n) := Lib.hid (by unfold lowRows; rw [HLN.out])
          clear HM3 HC3
          go_wp2
          go_ret
          exact ⟨rfl, by rw [HE.out]; exact HM4, HC4⟩
set_option maxHeartbeats 4000000 in
/-- Pick, where nobody waits. -/
theorem mpickNo (M : Mq w base mb mg n c now rows) (hn : n ≤ 4096) (b1 : now ≤ 1152921504606846976) (h0 : wIds rows n = []) :
    Calls Tryz.prog 26 #[.pointer (some ⟨mb, 0, none⟩)] w fun e w' => e = .returned (.tuple #[.int .i64 0, .bool false]) ∧ Hid (Below w.heap.size w w') := by
  have HW := Lib.hid (mwaiting M hn)
  rw [h0] at HW
  have k0 := M.nb.cell
  have hx1 : ¬ (1152921504606846976 < now) := by omega
  clear M h0
  go_enter Tryz.func26, Tryz.ntmps26
  go_wp2_with (go_at_call 40; (with_reducible refine HW.out.mono ?_); rintro e w1 ⟨v, rfl, HO, HB⟩; obtain ⟨A, c0, rfl⟩ := own_slice HO.out)
  go_ret2
  exact ⟨rfl, HB⟩
end Go.Proofs.YtabdipfpfbdghaaGreat

/- The reference's queue: Pick, where somebody waits. -/
namespace Go.Proofs.YtabdipfpfbdghaaGreat
open Go.RowKit
variable {w : World} {base mb mg n c : Nat} {now : Int} {rows : List RowQ}
theorem add_wrapQ {x z : Int} (h : I64 (x + z)) : IntKind.i64.wrap (x + z) = x + z := by
  unfold I64 at h
  rw [IntKind.wrap_i64] <;> omega
/-- A slice whose row is not empty. -/
theorem own_at {W : World} {B n : Nat} {v : Value} {xs : List Int} (h : W.ownsRow B 3 1 v n (nums .i64 xs)) (hn : 0 < n) : ∃ g c, v = .slice (some ⟨g, 0, none⟩) n c := by
  rcases h.2 with ⟨_, h4⟩ | ⟨g, c, _, h4, _⟩
  · omega
  · exact ⟨g, c, h4⟩
set_option maxRecDepth 100000 in
set_option maxHeartbeats 8000000 in
theorem mpick (M : Mq w base mb mg n c now rows) (hn : n ≤ 4096) (b1 : now ≤ 1152921504606846976) (x : Nat) (L : List Nat) (h0 : byKeys (pks rows) (wIds rows n) = x :: L) (hx : x < n) (r : RowQ) (hr : rows.getD x row0 = r) (b2 : I64 (r.ps + strideV r.tk)) (b3 : I64 (r.pk + 1)) :
    Calls Tryz.prog 26 #[.pointer (some ⟨mb, 0, none⟩)] w fun e w' => e = .returned (.tuple #[.int .i64 x, .bool true]) ∧ Hid (Mq w' base mb mg n c (if now < r.ps then r.ps else now) (rows.set x ⟨2, r.tk, r.ps + strideV r.tk, r.pk + 1⟩)) ∧ Hid (Chg (Ms mb mg) w w') := by
  have HW := Lib.hid (mwaiting M hn)
  have hm : 0 < (wIds rows n).length := by
    have h1 := (byKeys_perm' (pks rows) (wIds rows n)).length_eq
    rw [h0] at h1
    simp at h1
    omega
  obtain ⟨m, hmm⟩ : ∃ m, (wIds rows n).length = m := ⟨_, rfl⟩
  rw [h0, hmm] at HW
  rw [hmm] at hm
  have k0 := M.nb.cell
  have HM := Lib.hid M
  have HR := Lib.hid hr
  have HL := Lib.hid M.len
  have hx1 : ¬ (1152921504606846976 < now) := by omega
  have HS := Lib.hid (fun W => wstride r.tk W)
  have HW9 := Lib.hid (add_wrapQ b2)
  have HW11 := Lib.hid (add_wrapQ b3)
  obtain ⟨s, hs⟩ : ∃ s, strideV r.tk = s := ⟨_, rfl⟩
  rw [hs] at HS HW9
  rw [hs]
  have zm : (m : Int) ≠ 0 := by omega
  have zm2 : (0 : Int) < (m : Int) := by omega
  have zm3 : ¬ (m = 0) := by omega
  obtain ⟨now2, hn2⟩ : ∃ v, (if now < r.ps then r.ps else now) = v := ⟨_, rfl⟩
  rw [hn2]
  have HN2 := Lib.hid hn2
  clear M h0 hmm hr hs b2 b3 hn2
  go_enter Tryz.func26, Tryz.ntmps26
  go_wp2_with (first
    | (go_at_call 40; (with_reducible refine HW.out.mono ?_); rintro e w1 ⟨v, rfl, HO, HB⟩; obtain ⟨g1, c1, rfl⟩ := own_at HO.out (by omega); have HM1 := Lib.hid (HM.out.below HB.out); obtain ⟨p1, _, _⟩ := rowGet HO.out hm; change w1.cell? _ = some (.int .i64 ((x : Nat) : Int)) at p1; have HG := Lib.hid (fun e : g1 = mb => (by have h1 := (HO.out.lt g1 rfl).1; have h2 := HM.out.nb.lt; omega : False)); have HG2 := Lib.hid (fun e : g1 = mg => (by have h1 := (HO.out.lt g1 rfl).1; have h2 := (HM.out.ro.lt mg rfl).2; omega : False)); clear HM k0; obtain ⟨HF, HX⟩ : Hid _ ∧ Hid _ := ⟨Lib.hid (mrow HM1.out x ((x : Nat) : Int) rfl hx), Lib.hid hx⟩)
    | (go_at_call 59; (with_reducible refine HF.out.mono ?_); rintro e w2 ⟨rfl, rfl⟩)
    | fail)
  obtain ⟨W1, rfl⟩ : ∃ x, x = w1 := ⟨_, rfl⟩
  obtain ⟨r0, r1, r2, r3⟩ := HM1.out.row hx
  rw [HR.out] at r2
  have k0 := HM1.out.nb.cell
  have k2 := r2.cell
  clear r0 r1 r2 r3 hx1 HF HW
  have HCB : Hid (Chg (Ms mb mg) w W1) := Lib.hid (Chg.of_below HB.out)
  have hlm : ¬ (rows.length ≤ x) := by rw [HL.out]; omega
  have HLM := Lib.hid hlm
  clear hlm
  by_cases hgt : now < r.ps
  · have hd1 : decide (now < r.ps) = true := decide_eq_true hgt
    have HE2 : Hid (now2 = r.ps) := Lib.hid (by rw [← HN2.out, if_pos hgt])
    go_wp2_with fail
    go_big_region
    have hb7 := below_dr (Below.refl W1.heap.size W1) 1
    change Below _ _ W1.drew at hb7
    have HM2 := Lib.hid (HM1.out.below hb7)
    have HC2 : Hid (Chg (Ms mb mg) w W1.drew) := Lib.hid (HCB.out.trans (Chg.of_below hb7))
    have HP2 := Lib.hid (cell_below hb7 p1)
    clear hb7 k0 k2 p1
    generalize W1.drew = W2 at HM2 HC2 HP2 ⊢
    have n0 := HM2.out.nb.cell
    have n1 := HM2.out.nb.free
    obtain ⟨_, _, n2, _⟩ := HM2.out.row hx
    rw [HR.out] at n2
    have n3 := n2.cell
    clear n2
    have HM3 : Hid (Mq (W2.setCell ⟨mb, 0, none⟩ (.int .i64 r.ps)) base mb mg n c now2 rows) := Lib.hid (by rw [HE2.out]; exact HM2.out.setNow r.ps)
    have HC3 : Hid (Chg (Ms mb mg) w (W2.setCell ⟨mb, 0, none⟩ (.int .i64 r.ps))) := chg_mb HC2.out
    have HO3 : Hid ((W2.setCell ⟨mb, 0, none⟩ (.int .i64 r.ps)).cell? ⟨g1, 0, none⟩ = some (.int .i64 (x : Nat))) := (by have c9 : Chg (fun k => k = mb) W2 (W2.setCell ⟨mb, 0, none⟩ (.int .i64 r.ps)) := (Chg.refl _ _).setCell _ _ _ rfl; exact c9.cell HP2.out HG.out)
    go_wp2_with fail
    clear n0 n1 n3 hd1 hgt
    generalize W2.setCell ⟨mb, 0, none⟩ (.int .i64 r.ps) = W3 at HM3 HC3 HO3 ⊢
    obtain ⟨t0, t1, t2, t3⟩ := HM3.out.row hx
    rw [HR.out] at t0 t1 t2 t3
    have HRW : Hid (∀ W', Below W3.heap.size W3 W' → Box W' mg (x * 4 + 1) (.int .i64 r.tk) ∧ Box W' mg (x * 4 + 2) (.int .i64 r.ps)) := Lib.hid (fun W' h => ⟨t1.below h, t2.below h⟩)
    clear t0 t1 t2 t3
    have w9 := HW9.out
    obtain ⟨T, hT⟩ : ∃ T : Nat → Fact, ∀ t_, T t_ = ([Fact.eq (.pointer (some ⟨mg, x * 4, none⟩)), Fact.eq (.pointer (some ⟨mg, x * 4, none⟩)), Fact.eq (.pointer (some ⟨mg, x * 4 + 2, none⟩)), Fact.eq (.int .i64 r.ps), Fact.eq (.pointer (some ⟨mg, x * 4, none⟩)), Fact.eq (.pointer (some ⟨mg, x * 4, none⟩)), Fact.eq (.pointer (some ⟨mg, x * 4 + 1, none⟩)), Fact.eq (.int .i64 r.tk), Fact.eq (.int .i64 s), Fact.eq (.int .i64 (r.ps + s)), Fact.eq (.pointer (some ⟨mg, x * 4, none⟩)), Fact.eq (.pointer (some ⟨mg, x * 4 + 2, none⟩)), Fact.eq (undef)] : List (Fact)).getD t_ Fact.any := ⟨_, fun _ => rfl⟩
    refine region_tabS 12 [(0, 39), (1, 40), (2, 41), (3, 42), (4, 43), (5, 44), (6, 45), (7, 46), (8, 47), (9, 48), (10, 49), (11, 50)] T (by kernel_rfl) (by kernel_rfl) (by kernel_rfl) (by kernel_rfl) (by kernel_rfl) (by kernel_rfl) (by kernel_rfl) ?_ ?_
    · skip
      refine stepsAll_cons (k := 0) ?_ ?_
      · intro fa fx fW hF fB hE K fK
        have ev5 : fa.tmps[5]?.getD undef = .pointer (some ⟨mg, x * 4, none⟩) := hF.eo 5 (by kernel_rfl)
        refine wpOp_val rfl (wanted_none rfl) ?_ (fK (.pointer (some ⟨mg, x * 4, none⟩)) fW (Below.refl _ _) (by rw [hT]; exact rfl))
        clear fK hE hF
        go_simp
      refine stepsAll_cons (k := 1) ?_ ?_
      · intro fa fx fW hF fB hE K fK
        have q0 : fx 0 = .pointer (some ⟨mg, x * 4, none⟩) := by have q := hE ⟨0, .data⟩ (by simp) rfl; rw [hT] at q; exact q
        have ev39 : fa.tmps[39]?.getD undef = .pointer (some ⟨mg, x * 4, none⟩) := (hF.ev 0 39 (by kernel_rfl)).trans q0
        refine wpOp_val rfl (wanted_none rfl) ?_ (fK (.pointer (some ⟨mg, x * 4, none⟩)) fW (Below.refl _ _) (by rw [hT]; exact rfl))
        clear fK hE hF
        go_simp
      refine stepsAll_cons (k := 2) ?_ ?_
      · intro fa fx fW hF fB hE K fK
        have q1 : fx 1 = .pointer (some ⟨mg, x * 4, none⟩) := by have q := hE ⟨1, .data⟩ (by simp) rfl; rw [hT] at q; exact q
        have ev40 : fa.tmps[40]?.getD undef = .pointer (some ⟨mg, x * 4, none⟩) := (hF.ev 1 40 (by kernel_rfl)).trans q1
        refine wpOp_val rfl (wanted_none rfl) ?_ (fK (.pointer (some ⟨mg, x * 4 + 2, none⟩)) fW (Below.refl _ _) (by rw [hT]; exact rfl))
        clear fK hE hF
        go_simp
      refine stepsAll_cons (k := 3) ?_ ?_
      · intro fa fx fW hF fB hE K fK
        have q2 : fx 2 = .pointer (some ⟨mg, x * 4 + 2, none⟩) := by have q := hE ⟨2, .data⟩ (by simp) rfl; rw [hT] at q; exact q
        have ev41 : fa.tmps[41]?.getD undef = .pointer (some ⟨mg, x * 4 + 2, none⟩) := (hF.ev 2 41 (by kernel_rfl)).trans q2
        obtain ⟨_, z2⟩ := HRW.out _ fB
        have k0 := z2.cell
        refine wpOp_val rfl (wanted_none rfl) ?_ (fK (.int .i64 r.ps) fW (Below.refl _ _) (by rw [hT]; exact rfl))
        clear fK hE hF
        go_simp
      refine stepsAll_cons (k := 4) ?_ ?_
      · intro fa fx fW hF fB hE K fK
        have ev5 : fa.tmps[5]?.getD undef = .pointer (some ⟨mg, x * 4, none⟩) := hF.eo 5 (by kernel_rfl)
        refine wpOp_val rfl (wanted_none rfl) ?_ (fK (.pointer (some ⟨mg, x * 4, none⟩)) fW (Below.refl _ _) (by rw [hT]; exact rfl))
        clear fK hE hF
        go_simp
      refine stepsAll_cons (k := 5) ?_ ?_
      · intro fa fx fW hF fB hE K fK
        have q4 : fx 4 = .pointer (some ⟨mg, x * 4, none⟩) := by have q := hE ⟨4, .data⟩ (by simp) rfl; rw [hT] at q; exact q
        have ev43 : fa.tmps[43]?.getD undef = .pointer (some ⟨mg, x * 4, none⟩) := (hF.ev 4 43 (by kernel_rfl)).trans q4
        refine wpOp_val rfl (wanted_none rfl) ?_ (fK (.pointer (some ⟨mg, x * 4, none⟩)) fW (Below.refl _ _) (by rw [hT]; exact rfl))
        clear fK hE hF
        go_simp
      refine stepsAll_cons (k := 6) ?_ ?_
      · intro fa fx fW hF fB hE K fK
        have q5 : fx 5 = .pointer (some ⟨mg, x * 4, none⟩) := by have q := hE ⟨5, .data⟩ (by simp) rfl; rw [hT] at q; exact q
        have ev44 : fa.tmps[44]?.getD undef = .pointer (some ⟨mg, x * 4, none⟩) := (hF.ev 5 44 (by kernel_rfl)).trans q5
        refine wpOp_val rfl (wanted_none rfl) ?_ (fK (.pointer (some ⟨mg, x * 4 + 1, none⟩)) fW (Below.refl _ _) (by rw [hT]; exact rfl))
        clear fK hE hF
        go_simp
      refine stepsAll_cons (k := 7) ?_ ?_
      · intro fa fx fW hF fB hE K fK
        have q6 : fx 6 = .pointer (some ⟨mg, x * 4 + 1, none⟩) := by have q := hE ⟨6, .data⟩ (by simp) rfl; rw [hT] at q; exact q
        have ev45 : fa.tmps[45]?.getD undef = .pointer (some ⟨mg, x * 4 + 1, none⟩) := (hF.ev 6 45 (by kernel_rfl)).trans q6
        obtain ⟨z2, _⟩ := HRW.out _ fB
        have k0 := z2.cell
        refine wpOp_val rfl (wanted_none rfl) ?_ (fK (.int .i64 r.tk) fW (Below.refl _ _) (by rw [hT]; exact rfl))
        clear fK hE hF
        go_simp
      refine stepsAll_cons (k := 8) ?_ ?_
      · intro fa fx fW hF fB hE K fK
        have q7 : fx 7 = .int .i64 r.tk := by have q := hE ⟨7, .data⟩ (by simp) rfl; rw [hT] at q; exact q
        have ev46 : fa.tmps[46]?.getD undef = .int .i64 r.tk := (hF.ev 7 46 (by kernel_rfl)).trans q7
        refine wpOp_call rfl (wanted_none rfl) (by go_simp; exact ⟨rfl, rfl⟩) ?_
        refine (HS.out fW).mono ?_
        rintro e' w' ⟨rfl, rfl⟩
        exact ⟨_, rfl, fK (_) (fW) (Below.refl _ _) (by rw [hT]; exact rfl)⟩
      refine stepsAll_cons (k := 9) ?_ ?_
      · intro fa fx fW hF fB hE K fK
        have q3 : fx 3 = .int .i64 r.ps := by have q := hE ⟨3, .data⟩ (by simp) rfl; rw [hT] at q; exact q
        have q8 : fx 8 = .int .i64 s := by have q := hE ⟨8, .data⟩ (by simp) rfl; rw [hT] at q; exact q
        have ev42 : fa.tmps[42]?.getD undef = .int .i64 r.ps := (hF.ev 3 42 (by kernel_rfl)).trans q3
        have ev47 : fa.tmps[47]?.getD undef = .int .i64 s := (hF.ev 8 47 (by kernel_rfl)).trans q8
        refine wpOp_val rfl (wanted_none rfl) ?_ (fK (.int .i64 (r.ps + s)) fW (Below.refl _ _) (by rw [hT]; exact rfl))
        clear fK hE hF
        go_simp
      refine stepsAll_cons (k := 10) ?_ ?_
      · intro fa fx fW hF fB hE K fK
        have q0 : fx 0 = .pointer (some ⟨mg, x * 4, none⟩) := by have q := hE ⟨0, .data⟩ (by simp) rfl; rw [hT] at q; exact q
        have ev39 : fa.tmps[39]?.getD undef = .pointer (some ⟨mg, x * 4, none⟩) := (hF.ev 0 39 (by kernel_rfl)).trans q0
        refine wpOp_val rfl (wanted_none rfl) ?_ (fK (.pointer (some ⟨mg, x * 4, none⟩)) fW (Below.refl _ _) (by rw [hT]; exact rfl))
        clear fK hE hF
        go_simp
      refine stepsAll_cons (k := 11) ?_ ?_
      · intro fa fx fW hF fB hE K fK
        have q10 : fx 10 = .pointer (some ⟨mg, x * 4, none⟩) := by have q := hE ⟨10, .data⟩ (by simp) rfl; rw [hT] at q; exact q
        have ev49 : fa.tmps[49]?.getD undef = .pointer (some ⟨mg, x * 4, none⟩) := (hF.ev 10 49 (by kernel_rfl)).trans q10
        refine wpOp_val rfl (wanted_none rfl) ?_ (fK (.pointer (some ⟨mg, x * 4 + 2, none⟩)) fW (Below.refl _ _) (by rw [hT]; exact rfl))
        clear fK hE hF
        go_simp
      exact stepsAll_nil
    intro fa fx fW hF fB hx
    have q9 : fx 9 = .int .i64 (r.ps + s) := by have q := hx 9 (by decide); rw [hT] at q; exact q
    have ev48 : fa.tmps[48]?.getD undef = .int .i64 (r.ps + s) := (hF.ev 9 48 (by kernel_rfl)).trans q9
    have q11 : fx 11 = .pointer (some ⟨mg, x * 4 + 2, none⟩) := by have q := hx 11 (by decide); rw [hT] at q; exact q
    have ev50 : fa.tmps[50]?.getD undef = .pointer (some ⟨mg, x * 4 + 2, none⟩) := (hF.ev 11 50 (by kernel_rfl)).trans q11
    obtain ⟨_, z2⟩ := HRW.out _ fB
    have k0 := z2.cell
    have f0 := z2.free
    refine wpOp_fin rfl (wanted_none rfl) rfl (W' := fW.setCell ⟨mg, x * 4 + 2, none⟩ (.int .i64 (r.ps + s))) ?_ ?_
    · clear hF hx
      go_simp
    refine tail_end ?_
    rw [hF.eq]
    clear hF hx
    simp only [putAll, Act.put, List.setIfInBounds_toArray, List.set_cons_zero, List.set_cons_succ, ]
    have HM4 := Lib.hid ((HM3.out.below fB).setRow hx 2 (by decide) (.int .i64 (r.ps + s)) ⟨r.st, r.tk, r.ps + s, r.pk⟩ (by rw [HR.out]; rfl))
    have HC4 : Hid (Chg (Ms mb mg) w (fW.setCell ⟨mg, x * 4 + 2, none⟩ (.int .i64 (r.ps + s)))) := chg_mg (HC3.out.trans (Chg.of_below fB))
    have HO4 : Hid ((fW.setCell ⟨mg, x * 4 + 2, none⟩ (.int .i64 (r.ps + s))).cell? ⟨g1, 0, none⟩ = some (.int .i64 (x : Nat))) := (by have c9 : Chg (fun k => k = mg) fW (fW.setCell ⟨mg, x * 4 + 2, none⟩ (.int .i64 (r.ps + s))) := (Chg.refl _ _).setCell _ _ _ rfl; exact c9.cell (cell_below fB HO3.out) HG2.out)
    generalize fW.setCell ⟨mg, x * 4 + 2, none⟩ (.int .i64 (r.ps + s)) = W4 at HM4 HC4 HO4 ⊢
    clear HRW HS HM3 HC3 HO3 w9
    have HSX : Hid (∀ q : RowQ, (rows.set x q).getD x row0 = q) := Lib.hid (fun q => getD_set_same' _ _ _ (by rw [HL.out]; exact hx))
    obtain ⟨t0, _, _, t3⟩ := HM4.out.row hx
    rw [HSX.out _] at t0 t3
    have HM5 := Lib.hid (HM4.out.setRow hx 0 (by decide) (.int .i64 2) ⟨2, r.tk, r.ps + s, r.pk⟩ (by rw [HSX.out _]; rfl))
    have HM6 := Lib.hid (HM5.out.setRow hx 3 (by decide) (.int .i64 (r.pk + 1)) ⟨2, r.tk, r.ps + s, r.pk + 1⟩ (by rw [List.set_set, HSX.out _]; rfl))
    rw [List.set_set, List.set_set] at HM6
    have HC6 : Hid (Chg (Ms mb mg) w ((W4.setCell ⟨mg, x * 4, none⟩ (.int .i64 2)).setCell ⟨mg, x * 4 + 3, none⟩ (.int .i64 (r.pk + 1)))) := chg_mg (chg_mg HC4.out)
    have HO6 : (W4.setCell ⟨mg, x * 4, none⟩ (.int .i64 2)).cell? ⟨g1, 0, none⟩ = some (.int .i64 (x : Nat)) := by have c9 : Chg (fun k => k = mg) W4 (W4.setCell ⟨mg, x * 4, none⟩ (.int .i64 2)) := (Chg.refl _ _).setCell _ _ _ rfl; exact c9.cell HO4.out HG2.out
    have c0 := t0.cell
    have f0 := t0.free
    have c3 := t3.cell
    have f3 := t3.free
    have o0 := HO4.out
    have hg2 : g1 ≠ mg := HG2.out
    have w11 := HW11.out
    clear t0 t3 HM4 HM5 HC4 HO4 HO6
    go_wp2
    go_ret2
    exact ⟨rfl, HM6, HC6⟩
  · have hd1 : decide (now < r.ps) = false := decide_eq_false hgt
    have HE2 : Hid (now2 = now) := Lib.hid (by rw [← HN2.out, if_neg hgt])
    go_wp2_with fail
    go_big_region
    have hb7 := below_dr (Below.refl W1.heap.size W1) 1
    change Below _ _ W1.drew at hb7
    have HM3 : Hid (Mq W1.drew base mb mg n c now2 rows) := Lib.hid (by rw [HE2.out]; exact HM1.out.below hb7)
    have HC3 : Hid (Chg (Ms mb mg) w W1.drew) := Lib.hid (HCB.out.trans (Chg.of_below hb7))
    have HO3 := Lib.hid (cell_below hb7 p1)
    clear hb7 k0 k2 p1
    generalize W1.drew = W3 at HM3 HC3 HO3 ⊢
    go_wp2_with fail
    clear hd1 hgt
    obtain ⟨t0, t1, t2, t3⟩ := HM3.out.row hx
    rw [HR.out] at t0 t1 t2 t3
    have HRW : Hid (∀ W', Below W3.heap.size W3 W' → Box W' mg (x * 4 + 1) (.int .i64 r.tk) ∧ Box W' mg (x * 4 + 2) (.int .i64 r.ps)) := Lib.hid (fun W' h => ⟨t1.below h, t2.below h⟩)
    clear t0 t1 t2 t3
    have w9 := HW9.out
    obtain ⟨T, hT⟩ : ∃ T : Nat → Fact, ∀ t_, T t_ = ([Fact.eq (.pointer (some ⟨mg, x * 4, none⟩)), Fact.eq (.pointer (some ⟨mg, x * 4, none⟩)), Fact.eq (.pointer (some ⟨mg, x * 4 + 2, none⟩)), Fact.eq (.int .i64 r.ps), Fact.eq (.pointer (some ⟨mg, x * 4, none⟩)), Fact.eq (.pointer (some ⟨mg, x * 4, none⟩)), Fact.eq (.pointer (some ⟨mg, x * 4 + 1, none⟩)), Fact.eq (.int .i64 r.tk), Fact.eq (.int .i64 s), Fact.eq (.int .i64 (r.ps + s)), Fact.eq (.pointer (some ⟨mg, x * 4, none⟩)), Fact.eq (.pointer (some ⟨mg, x * 4 + 2, none⟩)), Fact.eq (undef)] : List (Fact)).getD t_ Fact.any := ⟨_, fun _ => rfl⟩
    refine region_tabS 12 [(0, 39), (1, 40), (2, 41), (3, 42), (4, 43), (5, 44), (6, 45), (7, 46), (8, 47), (9, 48), (10, 49), (11, 50)] T (by kernel_rfl) (by kernel_rfl) (by kernel_rfl) (by kernel_rfl) (by kernel_rfl) (by kernel_rfl) (by kernel_rfl) ?_ ?_
    · skip
      refine stepsAll_cons (k := 0) ?_ ?_
      · intro fa fx fW hF fB hE K fK
        have ev5 : fa.tmps[5]?.getD undef = .pointer (some ⟨mg, x * 4, none⟩) := hF.eo 5 (by kernel_rfl)
        refine wpOp_val rfl (wanted_none rfl) ?_ (fK (.pointer (some ⟨mg, x * 4, none⟩)) fW (Below.refl _ _) (by rw [hT]; exact rfl))
        clear fK hE hF
        go_simp
      refine stepsAll_cons (k := 1) ?_ ?_
      · intro fa fx fW hF fB hE K fK
        have q0 : fx 0 = .pointer (some ⟨mg, x * 4, none⟩) := by have q := hE ⟨0, .data⟩ (by simp) rfl; rw [hT] at q; exact q
        have ev39 : fa.tmps[39]?.getD undef = .pointer (some ⟨mg, x * 4, none⟩) := (hF.ev 0 39 (by kernel_rfl)).trans q0
        refine wpOp_val rfl (wanted_none rfl) ?_ (fK (.pointer (some ⟨mg, x * 4, none⟩)) fW (Below.refl _ _) (by rw [hT]; exact rfl))
        clear fK hE hF
        go_simp
      refine stepsAll_cons (k := 2) ?_ ?_
      · intro fa fx fW hF fB hE K fK
        have q1 : fx 1 = .pointer (some ⟨mg, x * 4, none⟩) := by have q := hE ⟨1, .data⟩ (by simp) rfl; rw [hT] at q; exact q
        have ev40 : fa.tmps[40]?.getD undef = .pointer (some ⟨mg, x * 4, none⟩) := (hF.ev 1 40 (by kernel_rfl)).trans q1
        refine wpOp_val rfl (wanted_none rfl) ?_ (fK (.pointer (some ⟨mg, x * 4 + 2, none⟩)) fW (Below.refl _ _) (by rw [hT]; exact rfl))
        clear fK hE hF
        go_simp
      refine stepsAll_cons (k := 3) ?_ ?_
      · intro fa fx fW hF fB hE K fK
        have q2 : fx 2 = .pointer (some ⟨mg, x * 4 + 2, none⟩) := by have q := hE ⟨2, .data⟩ (by simp) rfl; rw [hT] at q; exact q
        have ev41 : fa.tmps[41]?.getD undef = .pointer (some ⟨mg, x * 4 + 2, none⟩) := (hF.ev 2 41 (by kernel_rfl)).trans q2
        obtain ⟨_, z2⟩ := HRW.out _ fB
        have k0 := z2.cell
        refine wpOp_val rfl (wanted_none rfl) ?_ (fK (.int .i64 r.ps) fW (Below.refl _ _) (by rw [hT]; exact rfl))
        clear fK hE hF
        go_simp
      refine stepsAll_cons (k := 4) ?_ ?_
      · intro fa fx fW hF fB hE K fK
        have ev5 : fa.tmps[5]?.getD undef = .pointer (some ⟨mg, x * 4, none⟩) := hF.eo 5 (by kernel_rfl)
        refine wpOp_val rfl (wanted_none rfl) ?_ (fK (.pointer (some ⟨mg, x * 4, none⟩)) fW (Below.refl _ _) (by rw [hT]; exact rfl))
        clear fK hE hF
        go_simp
      refine stepsAll_cons (k := 5) ?_ ?_
      · intro fa fx fW hF fB hE K fK
        have q4 : fx 4 = .pointer (some ⟨mg, x * 4, none⟩) := by have q := hE ⟨4, .data⟩ (by simp) rfl; rw [hT] at q; exact q
        have ev43 : fa.tmps[43]?.getD undef = .pointer (some ⟨mg, x * 4, none⟩) := (hF.ev 4 43 (by kernel_rfl)).trans q4
        refine wpOp_val rfl (wanted_none rfl) ?_ (fK (.pointer (some ⟨mg, x * 4, none⟩)) fW (Below.refl _ _) (by rw [hT]; exact rfl))
        clear fK hE hF
        go_simp
      refine stepsAll_cons (k := 6) ?_ ?_
      · intro fa fx fW hF fB hE K fK
        have q5 : fx 5 = .pointer (some ⟨mg, x * 4, none⟩) := by have q := hE ⟨5, .data⟩ (by simp) rfl; rw [hT] at q; exact q
        have ev44 : fa.tmps[44]?.getD undef = .pointer (some ⟨mg, x * 4, none⟩) := (hF.ev 5 44 (by kernel_rfl)).trans q5
        refine wpOp_val rfl (wanted_none rfl) ?_ (fK (.pointer (some ⟨mg, x * 4 + 1, none⟩)) fW (Below.refl _ _) (by rw [hT]; exact rfl))
        clear fK hE hF
        go_simp
      refine stepsAll_cons (k := 7) ?_ ?_
      · intro fa fx fW hF fB hE K fK
        have q6 : fx 6 = .pointer (some ⟨mg, x * 4 + 1, none⟩) := by have q := hE ⟨6, .data⟩ (by simp) rfl; rw [hT] at q; exact q
        have ev45 : fa.tmps[45]?.getD undef = .pointer (some ⟨mg, x * 4 + 1, none⟩) := (hF.ev 6 45 (by kernel_rfl)).trans q6
        obtain ⟨z2, _⟩ := HRW.out _ fB
        have k0 := z2.cell
        refine wpOp_val rfl (wanted_none rfl) ?_ (fK (.int .i64 r.tk) fW (Below.refl _ _) (by rw [hT]; exact rfl))
        clear fK hE hF
        go_simp
      refine stepsAll_cons (k := 8) ?_ ?_
      · intro fa fx fW hF fB hE K fK
        have q7 : fx 7 = .int .i64 r.tk := by have q := hE ⟨7, .data⟩ (by simp) rfl; rw [hT] at q; exact q
        have ev46 : fa.tmps[46]?.getD undef = .int .i64 r.tk := (hF.ev 7 46 (by kernel_rfl)).trans q7
        refine wpOp_call rfl (wanted_none rfl) (by go_simp; exact ⟨rfl, rfl⟩) ?_
        refine (HS.out fW).mono ?_
        rintro e' w' ⟨rfl, rfl⟩
        exact ⟨_, rfl, fK (_) (fW) (Below.refl _ _) (by rw [hT]; exact rfl)⟩
      refine stepsAll_cons (k := 9) ?_ ?_
      · intro fa fx fW hF fB hE K fK
        have q3 : fx 3 = .int .i64 r.ps := by have q := hE ⟨3, .data⟩ (by simp) rfl; rw [hT] at q; exact q
        have q8 : fx 8 = .int .i64 s := by have q := hE ⟨8, .data⟩ (by simp) rfl; rw [hT] at q; exact q
        have ev42 : fa.tmps[42]?.getD undef = .int .i64 r.ps := (hF.ev 3 42 (by kernel_rfl)).trans q3
        have ev47 : fa.tmps[47]?.getD undef = .int .i64 s := (hF.ev 8 47 (by kernel_rfl)).trans q8
        refine wpOp_val rfl (wanted_none rfl) ?_ (fK (.int .i64 (r.ps + s)) fW (Below.refl _ _) (by rw [hT]; exact rfl))
        clear fK hE hF
        go_simp
      refine stepsAll_cons (k := 10) ?_ ?_
      · intro fa fx fW hF fB hE K fK
        have q0 : fx 0 = .pointer (some ⟨mg, x * 4, none⟩) := by have q := hE ⟨0, .data⟩ (by simp) rfl; rw [hT] at q; exact q
        have ev39 : fa.tmps[39]?.getD undef = .pointer (some ⟨mg, x * 4, none⟩) := (hF.ev 0 39 (by kernel_rfl)).trans q0
        refine wpOp_val rfl (wanted_none rfl) ?_ (fK (.pointer (some ⟨mg, x * 4, none⟩)) fW (Below.refl _ _) (by rw [hT]; exact rfl))
        clear fK hE hF
        go_simp
      refine stepsAll_cons (k := 11) ?_ ?_
      · intro fa fx fW hF fB hE K fK
        have q10 : fx 10 = .pointer (some ⟨mg, x * 4, none⟩) := by have q := hE ⟨10, .data⟩ (by simp) rfl; rw [hT] at q; exact q
        have ev49 : fa.tmps[49]?.getD undef = .pointer (some ⟨mg, x * 4, none⟩) := (hF.ev 10 49 (by kernel_rfl)).trans q10
        refine wpOp_val rfl (wanted_none rfl) ?_ (fK (.pointer (some ⟨mg, x * 4 + 2, none⟩)) fW (Below.refl _ _) (by rw [hT]; exact rfl))
        clear fK hE hF
        go_simp
      exact stepsAll_nil
    intro fa fx fW hF fB hx
    have q9 : fx 9 = .int .i64 (r.ps + s) := by have q := hx 9 (by decide); rw [hT] at q; exact q
    have ev48 : fa.tmps[48]?.getD undef = .int .i64 (r.ps + s) := (hF.ev 9 48 (by kernel_rfl)).trans q9
    have q11 : fx 11 = .pointer (some ⟨mg, x * 4 + 2, none⟩) := by have q := hx 11 (by decide); rw [hT] at q; exact q
    have ev50 : fa.tmps[50]?.getD undef = .pointer (some ⟨mg, x * 4 + 2, none⟩) := (hF.ev 11 50 (by kernel_rfl)).trans q11
    obtain ⟨_, z2⟩ := HRW.out _ fB
    have k0 := z2.cell
    have f0 := z2.free
    refine wpOp_fin rfl (wanted_none rfl) rfl (W' := fW.setCell ⟨mg, x * 4 + 2, none⟩ (.int .i64 (r.ps + s))) ?_ ?_
    · clear hF hx
      go_simp
    refine tail_end ?_
    rw [hF.eq]
    clear hF hx
    simp only [putAll, Act.put, List.setIfInBounds_toArray, List.set_cons_zero, List.set_cons_succ, ]
    have HM4 := Lib.hid ((HM3.out.below fB).setRow hx 2 (by decide) (.int .i64 (r.ps + s)) ⟨r.st, r.tk, r.ps + s, r.pk⟩ (by rw [HR.out]; rfl))
    have HC4 : Hid (Chg (Ms mb mg) w (fW.setCell ⟨mg, x * 4 + 2, none⟩ (.int .i64 (r.ps + s)))) := chg_mg (HC3.out.trans (Chg.of_below fB))
    have HO4 : Hid ((fW.setCell ⟨mg, x * 4 + 2, none⟩ (.int .i64 (r.ps + s))).cell? ⟨g1, 0, none⟩ = some (.int .i64 (x : Nat))) := (by have c9 : Chg (fun k => k = mg) fW (fW.setCell ⟨mg, x * 4 + 2, none⟩ (.int .i64 (r.ps + s))) := (Chg.refl _ _).setCell _ _ _ rfl; exact c9.cell (cell_below fB HO3.out) HG2.out)
    generalize fW.setCell ⟨mg, x * 4 + 2, none⟩ (.int .i64 (r.ps + s)) = W4 at HM4 HC4 HO4 ⊢
    clear HRW HS HM3 HC3 HO3 w9
    have HSX : Hid (∀ q : RowQ, (rows.set x q).getD x row0 = q) := Lib.hid (fun q => getD_set_same' _ _ _ (by rw [HL.out]; exact hx))
    obtain ⟨t0, _, _, t3⟩ := HM4.out.row hx
    rw [HSX.out _] at t0 t3
    have HM5 := Lib.hid (HM4.out.setRow hx 0 (by decide) (.int .i64 2) ⟨2, r.tk, r.ps + s, r.pk⟩ (by rw [HSX.out _]; rfl))
    have HM6 := Lib.hid (HM5.out.setRow hx 3 (by decide) (.int .i64 (r.pk + 1)) ⟨2, r.tk, r.ps + s, r.pk + 1⟩ (by rw [List.set_set, HSX.out _]; rfl))
    rw [List.set_set, List.set_set] at HM6
    have HC6 : Hid (Chg (Ms mb mg) w ((W4.setCell ⟨mg, x * 4, none⟩ (.int .i64 2)).setCell ⟨mg, x * 4 + 3, none⟩ (.int .i64 (r.pk + 1)))) := chg_mg (chg_mg HC4.out)
    have HO6 : (W4.setCell ⟨mg, x * 4, none⟩ (.int .i64 2)).cell? ⟨g1, 0, none⟩ = some (.int .i64 (x : Nat)) := by have c9 : Chg (fun k => k = mg) W4 (W4.setCell ⟨mg, x * 4, none⟩ (.int .i64 2)) := (Chg.refl _ _).setCell _ _ _ rfl; exact c9.cell HO4.out HG2.out
    have c0 := t0.cell
    have f0 := t0.free
    have c3 := t3.cell
    have f3 := t3.free
    have o0 := HO4.out
    have hg2 : g1 ≠ mg := HG2.out
    have w11 := HW11.out
    clear t0 t3 HM4 HM5 HC4 HO4 HO6
    go_wp2
    go_ret2
    exact ⟨rfl, HM6, HC6⟩
end Go.Proofs.YtabdipfpfbdghaaGreat

/- The queue's Waiting. -/
namespace Go.Proofs.YtabdipfpfbdghaaGreat
open Go.RowKit
variable {TK : Nat → Prop} {w0 : FrQ} {w : World} {b g c hb n : Nat} {q : QV}
theorem Hp.hx0 {gk gp base ck cp : Nat} {iv : Value} {h : HV} (H : Hp w b gk gp base n ck cp iv h) (s : Sd n h) : Hx { w with heap := #[] } w b n h :=
  ⟨gk, gp, ck, cp, iv, ⟨H.ib, own_mono H.io (Nat.zero_le _), ⟨H.kw.kb, own_mono H.kw.ko (Nat.zero_le _)⟩, H.pb, own_mono H.po (Nat.zero_le _), H.n2, H.n5, H.n6, H.ni⟩, s, Nat.zero_le _, Nat.zero_le _, Nat.zero_le _, ⟨rfl, rfl, rfl, Nat.zero_le _, fun _ hk => absurd hk (Nat.not_lt_zero _)⟩⟩
theorem Qx.all (Q : Qx TK w0 w b g c hb n q) (h0 : 0 < n) (hn : n ≤ 4096) :
    Calls Tryz.prog 46 #[.pointer (some ⟨hb, 0, none⟩)] w fun e w' => ∃ v, e = .returned v ∧ Hid (w'.ownsRow w.heap.size 3 1 v q.h.ids.length (nums .i64 (zs (byKeys q.h.ks q.h.ids)))) ∧ Hid (Below w.heap.size w w') := by
  obtain ⟨⟨gk, gp, ck, cp, iv, Q1, QT⟩, Q2⟩ := Q
  refine (xall (Q1.hp.hx0 Q1.sd) h0 hn).mono ?_
  rintro e w' ⟨v, rfl, h1, _, h2⟩
  exact ⟨v, rfl, h1, h2⟩
set_option maxHeartbeats 4000000 in
theorem qwaiting (Q : Qx TK w0 w b g c hb n q) (h0 : 0 < n) (hn : n ≤ 4096) :
    Calls Tryz.prog 15 #[.pointer (some ⟨b, 0, none⟩)] w fun e w' => ∃ v, e = .returned v ∧ Hid (w'.ownsRow w.heap.size 3 1 v q.h.ids.length (nums .i64 (zs (byKeys q.h.ks q.h.ids)))) ∧ Hid (Below w.heap.size w w') := by
  obtain ⟨b0, b1, b2⟩ := Q.box
  have HM := Lib.hid (qmade b hb w b2.cell)
  have HA := Lib.hid (Q.all h0 hn)
  have k2 := b2.cell
  clear Q b0 b1 b2 h0
  go_enter Tryz.func15, Tryz.ntmps15
  go_wp2_with (first
    | (go_at_call 41; (with_reducible refine HM.out.mono ?_); rintro e w1 ⟨rfl, rfl⟩)
    | (go_at_call 46; (with_reducible refine HA.out.mono ?_); rintro e w1 ⟨v, rfl, h1, h2⟩))
  go_ret
  exact ⟨v, rfl, h1, h2⟩
end Go.Proofs.YtabdipfpfbdghaaGreat

/- The queue and the document's, apart: what an act does to both. -/
namespace Go.Proofs.YtabdipfpfbdghaaGreat
open Go.RowKit
variable {base b g c hb mb mg cm n : Nat} {w : World} {q : QV}
/-- A queue with its blocks. -/
def QZ (base : Nat) (w : World) (b g c hb n : Nat) (q : QV) (S : Nat → Prop) : Prop := ∃ gk gp ck cp iv, Qw w base b g c hb gk gp ck cp n iv q ∧ ∀ k, S k ↔ (k = b ∨ k = g ∨ HS hb gk gp iv k)
theorem QZ.lt {S : Nat → Prop} (Q : QZ base w b g c hb n q S) {k : Nat} (hk : S k) : k < w.heap.size := by
  obtain ⟨gk, gp, ck, cp, iv, h1, h7⟩ := Q
  rcases (h7 k).1 hk with e | e | e | e | e | e
  · rw [e]; exact h1.nb.lt
  · rw [e]; exact (h1.ro.lt g rfl).2
  · rw [e]; exact h1.hp.ib.lt
  · rw [e]; exact (h1.hp.kw.ko.lt gk rfl).2
  · rw [e]; exact (h1.hp.po.lt gp rfl).2
  · exact (h1.hp.io.lt k e).2
theorem QZ.ge {S : Nat → Prop} (Q : QZ base w b g c hb n q S) {k : Nat} (hk : S k) : base ≤ k := by
  obtain ⟨gk, gp, ck, cp, iv, h1, h7⟩ := Q
  rcases (h7 k).1 hk with e | e | e | e | e | e
  · rw [e]; exact h1.lb
  · rw [e]; exact (h1.ro.lt g rfl).1
  · rw [e]; exact h1.lh.1
  · rw [e]; exact h1.lh.2.1
  · rw [e]; exact h1.lh.2.2
  · exact (h1.hp.io.lt k e).1
/-- The others' blocks. -/
def Oth (w : World) (S : Nat → Prop) : Nat → Prop := fun k => k < w.heap.size ∧ ¬ S k
theorem QZ.qx {S : Nat → Prop} (Q : QZ base w b g c hb n q S) : Qx NoT ⟨w, base, Oth w S⟩ w b g c hb n q := by
  have hlt := fun k (h : S k) => Q.lt h
  have hge := fun k (h : S k) => Q.ge h
  obtain ⟨gk, gp, ck, cp, iv, h1, h7⟩ := Q
  have hb := hge b ((h7 b).2 (.inl rfl))
  have hl := hlt b ((h7 b).2 (.inl rfl))
  refine ⟨⟨gk, gp, ck, cp, iv, h1, fun k hk => ?_⟩, rfl, rfl, rfl, Nat.le_refl _, by show base ≤ w.heap.size; omega, fun k _ _ => rfl⟩
  rcases hk with hk | ⟨hk, hn⟩
  · exact hk.elim
  · exact ⟨hk, fun e => hn ((h7 k).2 (.inl e)), fun e => hn ((h7 k).2 (.inr (.inl e))), fun e => hn ((h7 k).2 (.inr (.inr e)))⟩
/-- What an act did with the blocks. -/
def Stq (w w' : World) (S S' : Nat → Prop) : Prop := Chg S w w' ∧ ∀ k, S' k → S k ∨ w.heap.size ≤ k
theorem Stq.trans {w w1 w2 : World} {S S1 S2 : Nat → Prop} (h : Stq w w1 S S1) (k : Stq w1 w2 S1 S2) : Stq w w2 S S2 := by
  refine ⟨⟨k.1.os.trans h.1.os, k.1.tape.trans h.1.tape, k.1.output.trans h.1.output, Nat.le_trans h.1.size k.1.size, fun i hi hs => ?_⟩, fun i hi => ?_⟩
  · refine (k.1.block i (Nat.lt_of_lt_of_le hi h.1.size) (fun e => ?_)).trans (h.1.block i hi hs)
    rcases h.2 i e with e | e
    · exact hs e
    · omega
  · rcases k.2 i hi with e | e
    · exact h.2 i e
    · exact .inr (Nat.le_trans h.1.size e)
theorem Stq.refl (w : World) (S : Nat → Prop) : Stq w w S S := ⟨Chg.refl _ _, fun _ h => .inl h⟩
theorem Stq.of_below {w w' : World} {S : Nat → Prop} (h : Below w.heap.size w w') : Stq w w' S S := ⟨Chg.of_below h, fun _ h => .inl h⟩
theorem Qx.qz {S : Nat → Prop} {w' : World} {q' : QV} (Q : Qx NoT ⟨w, base, Oth w S⟩ w' b g c hb n q') : ∃ S', QZ base w' b g c hb n q' S' ∧ Stq w w' S S' := by
  obtain ⟨⟨gk, gp, ck, cp, iv, h1, h2⟩, k1, k2, k3, k4, k5, k6⟩ := Q
  refine ⟨fun k => k = b ∨ k = g ∨ HS hb gk gp iv k, ⟨gk, gp, ck, cp, iv, h1, fun _ => Iff.rfl⟩, ⟨k1, k2, k3, k4, fun k hk hs => k6 k hk (.inr ⟨hk, hs⟩)⟩, fun k hk => ?_⟩
  by_cases hs : S k
  · exact .inl hs
  · by_cases hlt : k < w.heap.size
    · exfalso
      obtain ⟨_, n1, n2, n3⟩ := h2 k (.inr ⟨hlt, hs⟩)
      rcases hk with e | e | e
      · exact n1 e
      · exact n2 e
      · exact n3 e
    · exact .inr (by omega)
theorem QZ.keep {S T : Nat → Prop} {w' : World} (Q : QZ base w b g c hb n q S) (hc : Chg T w w') (hd : ∀ k, S k → ¬ T k) : QZ base w' b g c hb n q S := by
  obtain ⟨gk, gp, ck, cp, iv, h1, h7⟩ := Q
  have hg : ¬ T g := hd g ((h7 g).2 (.inr (.inl rfl)))
  have hbb : ¬ T b := hd b ((h7 b).2 (.inl rfl))
  refine ⟨gk, gp, ck, cp, iv, ⟨h1.nb.keep hc hbb, h1.rb.keep hc hbb, h1.hx.keep hc hbb, hc.own h1.ro (fun k e => by cases e; exact hg), h1.hp.keep hc (hd hb ((h7 hb).2 (.inr (.inr (.inl rfl))))) (hd gk ((h7 gk).2 (.inr (.inr (.inr (.inl rfl)))))) (hd gp ((h7 gp).2 (.inr (.inr (.inr (.inr (.inl rfl))))))) (fun k e => hd k ((h7 k).2 (.inr (.inr (.inr (.inr (.inr e))))))), h1.sd, h1.ne, h1.ni, h1.lb, h1.lh⟩, h7⟩
/-- Both, apart; T: their blocks. -/
structure Pz (base : Nat) (w : World) (b g c hb mb mg cm n : Nat) (q : QV) (now : Int) (rows : List RowQ) (T : Nat → Prop) : Prop where
  ex : ∃ S, QZ base w b g c hb n q S ∧ ¬ S mb ∧ ¬ S mg ∧ ∀ k, T k ↔ (S k ∨ k = mb ∨ k = mg)
  mq : Mq w base mb mg n cm now rows
variable {now : Int} {rows : List RowQ} {T : Nat → Prop}
theorem Pz.lt (P : Pz base w b g c hb mb mg cm n q now rows T) {k : Nat} (hk : T k) : k < w.heap.size := by
  obtain ⟨S, h1, h2, h3, h4⟩ := P.ex
  rcases (h4 k).1 hk with e | e | e
  · exact h1.lt e
  · rw [e]; exact P.mq.nb.lt
  · rw [e]; exact (P.mq.ro.lt mg rfl).2
theorem Pz.ge (P : Pz base w b g c hb mb mg cm n q now rows T) {k : Nat} (hk : T k) : base ≤ k := by
  obtain ⟨S, h1, h2, h3, h4⟩ := P.ex
  rcases (h4 k).1 hk with e | e | e
  · exact h1.ge e
  · rw [e]; exact P.mq.lb
  · rw [e]; exact (P.mq.ro.lt mg rfl).1
theorem Pz.keep {w' : World} {T2 : Nat → Prop} (P : Pz base w b g c hb mb mg cm n q now rows T) (hc : Chg T2 w w') (hd : ∀ k, T k → ¬ T2 k) : Pz base w' b g c hb mb mg cm n q now rows T := by
  obtain ⟨S, h1, h2, h3, h4⟩ := P.ex
  exact ⟨⟨S, h1.keep hc (fun k e => hd k ((h4 k).2 (.inl e))), h2, h3, h4⟩, P.mq.keep hc (hd mb ((h4 mb).2 (.inr (.inl rfl)))) (hd mg ((h4 mg).2 (.inr (.inr rfl))))⟩
theorem Pz.below {w' : World} (P : Pz base w b g c hb mb mg cm n q now rows T) (hbl : Below w.heap.size w w') : Pz base w' b g c hb mb mg cm n q now rows T :=
  P.keep (T2 := fun _ => False) (Chg.of_below hbl) (fun _ _ h => h)
/-- An act of the queue. -/
theorem Pz.code (P : Pz base w b g c hb mb mg cm n q now rows T) : ∃ K, Qx NoT ⟨w, base, K⟩ w b g c hb n q ∧ ∀ w' q', Qx NoT ⟨w, base, K⟩ w' b g c hb n q' → ∃ T', Pz base w' b g c hb mb mg cm n q' now rows T' ∧ Stq w w' T T' := by
  obtain ⟨S, h1, h2, h3, h4⟩ := P.ex
  refine ⟨_, h1.qx, fun w' q' Q => ?_⟩
  obtain ⟨S', k1, k2, k3⟩ := Q.qz
  have l1 := P.mq.nb.lt
  have l2 := (P.mq.ro.lt mg rfl).2
  refine ⟨fun k => S' k ∨ k = mb ∨ k = mg, ⟨⟨S', k1, fun e => ?_, fun e => ?_, fun _ => Iff.rfl⟩, P.mq.keep k2 h2 h3⟩, k2.mono (fun k _ e => (h4 k).2 (.inl e)), fun k e => ?_⟩
  · rcases k3 mb e with e | e
    · exact h2 e
    · omega
  · rcases k3 mg e with e | e
    · exact h3 e
    · omega
  · rcases e with e | e
    · rcases k3 k e with e | e
      · exact .inl ((h4 k).2 (.inl e))
      · exact .inr e
    · exact .inl ((h4 k).2 (.inr e))
/-- An act of the document's. -/
theorem Pz.ref {w' : World} {now' : Int} {rows' : List RowQ} (P : Pz base w b g c hb mb mg cm n q now rows T) (hc : Chg (Ms mb mg) w w') (M : Mq w' base mb mg n cm now' rows') : Pz base w' b g c hb mb mg cm n q now' rows' T ∧ Chg T w w' := by
  obtain ⟨S, h1, h2, h3, h4⟩ := P.ex
  refine ⟨⟨⟨S, h1.keep hc (fun k e e2 => ?_), h2, h3, h4⟩, M⟩, hc.mono (fun k _ e => (h4 k).2 (.inr e))⟩
  rcases e2 with e2 | e2
  · rw [e2] at e; exact h2 e
  · rw [e2] at e; exact h3 e
/-- What an act of the document's leaves. -/
def RP (w : World) (base mb mg n cm : Nat) (s : Int × QV) (r : Int) (w' : World) : Prop := r = s.1 ∧ Hid (Mq w' base mb mg n cm s.2.now s.2.rows) ∧ Hid (Chg (Ms mb mg) w w')
theorem rp_same {s : Int × QV} {r : Int} {w' : World} (M : Mq w base mb mg n cm q.now q.rows) (hs : s = (r, q)) (hw : w = w') : RP w base mb mg n cm s r w' := by
  subst hw
  rw [hs]
  exact ⟨rfl, Lib.hid M, Lib.hid (Chg.refl _ _)⟩
theorem rjoin (M : Mq w base mb mg n cm q.now q.rows) (z t : Int) :
    Calls Tryz.prog 25 #[.pointer (some ⟨mb, 0, none⟩), .int .i64 z, .int .i64 t] w fun e w' => ∃ r, e = .returned (.int .i64 r) ∧ RP w base mb mg n cm (joinS n q z t) r w' := by
  by_cases hi : inZ n z
  · obtain ⟨x, hz, hx, hzx⟩ := inZ_nat hi
    by_cases ht : strideV t = 0
    · refine (mjoinArg M x z t hz hx ht).mono ?_
      rintro e w' ⟨he, hw⟩
      exact ⟨_, he, rp_same M (by unfold joinS; rw [if_neg (by simpa using hi), if_pos ht]) hw⟩
    · by_cases hst : (q.rows.getD x row0).st = 0
      · refine (mjoin M x z t hz hx ht hst).mono ?_
        rintro e w' ⟨he, h1, h2⟩
        have es : joinS n q z t = (0, joinR q x t) := by unfold joinS rowZ; rw [hzx, if_neg (by simpa using hi), if_neg ht, if_neg (by simpa using hst)]
        rw [es]
        exact ⟨_, he, rfl, h1, h2⟩
      · refine (mjoinSt M x z t hz hx ht hst).mono ?_
        rintro e w' ⟨he, hw⟩
        exact ⟨_, he, rp_same M (by unfold joinS rowZ; rw [hzx, if_neg (by simpa using hi), if_neg ht, if_pos hst]) hw⟩
  · refine (mjoinOut M z t (inZ_out hi)).mono ?_
    rintro e w' ⟨he, hw⟩
    exact ⟨_, he, rp_same M (by unfold joinS; rw [if_pos hi]) hw⟩
theorem rdrop (M : Mq w base mb mg n cm q.now q.rows) (z : Int) :
    Calls Tryz.prog 37 #[.pointer (some ⟨mb, 0, none⟩), .int .i64 z] w fun e w' => ∃ r, e = .returned (.int .i64 r) ∧ RP w base mb mg n cm (dropS n q z) r w' := by
  by_cases hi : inZ n z
  · obtain ⟨x, hz, hx, hzx⟩ := inZ_nat hi
    by_cases hst : (q.rows.getD x row0).st = 0
    · refine (mdropNo M x z hz hx hst).mono ?_
      rintro e w' ⟨he, hw⟩
      exact ⟨_, he, rp_same M (by unfold dropS rowZ; rw [hzx, if_neg (by simpa using hi), if_pos hst]) hw⟩
    · refine (mdrop M x z hz hx hst).mono ?_
      rintro e w' ⟨he, h1, h2⟩
      have es : dropS n q z = (0, dropR q x) := by unfold dropS rowZ; rw [hzx, if_neg (by simpa using hi), if_neg hst]
      rw [es]
      exact ⟨_, he, rfl, h1, h2⟩
  · refine (mdropOut M z (inZ_out hi)).mono ?_
    rintro e w' ⟨he, hw⟩
    exact ⟨_, he, rp_same M (by unfold dropS; rw [if_pos hi]) hw⟩
/-- From one state to another one. -/
theorem rturn (M : Mq w base mb mg n cm q.now q.rows) (z frm tgt : Int) (s : Int × QV) (h1 : ¬ inZ n z → s = (8, q)) (h2 : inZ n z → (rowZ q z).st ≠ frm → s = (5, q)) (h3 : inZ n z → (rowZ q z).st = frm → s.1 = 0 ∧ s.2.now = q.now ∧ s.2.rows = q.rows.set z.toNat ⟨tgt, (rowZ q z).tk, (rowZ q z).ps, (rowZ q z).pk⟩) :
    Calls Tryz.prog 64 #[.pointer (some ⟨mb, 0, none⟩), .int .i64 z, .int .i64 frm, .int .i64 tgt, .bool false] w fun e w' => ∃ r, e = .returned (.int .i64 r) ∧ RP w base mb mg n cm s r w' := by
  by_cases hi : inZ n z
  · obtain ⟨x, hz, hx, hzx⟩ := inZ_nat hi
    by_cases hst : (q.rows.getD x row0).st = frm
    · refine (mturn M x z hz hx frm tgt hst).mono ?_
      rintro e w' ⟨he, k1, k2⟩
      obtain ⟨e1, e2, e3⟩ := h3 hi (by unfold rowZ; rw [hzx]; exact hst)
      unfold rowZ at e3
      rw [hzx] at e3
      exact ⟨_, he, e1.symm, by rw [e2, e3]; exact k1, k2⟩
    · refine (mturnNo M x z hz hx frm tgt false hst).mono ?_
      rintro e w' ⟨he, hw⟩
      exact ⟨_, he, rp_same M (h2 hi (by unfold rowZ; rw [hzx]; exact hst)) hw⟩
  · refine (mturnOut M z (inZ_out hi) frm tgt false).mono ?_
    rintro e w' ⟨he, hw⟩
    exact ⟨_, he, rp_same M (h1 hi) hw⟩
theorem rtake (M : Mq w base mb mg n cm q.now q.rows) (z : Int) :
    Calls Tryz.prog 28 #[.pointer (some ⟨mb, 0, none⟩), .int .i64 z] w fun e w' => ∃ r, e = .returned (.int .i64 r) ∧ RP w base mb mg n cm (takeS n q z) r w' :=
  mtakeW z (rturn M z 1 2 _ (fun h => by unfold takeS; rw [if_pos h]) (fun h h2 => by unfold takeS; rw [if_neg (by simpa using h), if_pos h2]) (fun h h2 => by unfold takeS; rw [if_neg (by simpa using h), if_neg (by simpa using h2)]; exact ⟨rfl, rfl, rfl⟩))
theorem rblock (M : Mq w base mb mg n cm q.now q.rows) (z : Int) :
    Calls Tryz.prog 31 #[.pointer (some ⟨mb, 0, none⟩), .int .i64 z] w fun e w' => ∃ r, e = .returned (.int .i64 r) ∧ RP w base mb mg n cm (markS n q z 2 3) r w' :=
  mblockW z (rturn M z 2 3 _ (fun h => by unfold markS; rw [if_pos h]) (fun h h2 => by unfold markS; rw [if_neg (by simpa using h), if_pos h2]) (fun h h2 => by unfold markS; rw [if_neg (by simpa using h), if_neg (by simpa using h2)]; exact ⟨rfl, rfl, rfl⟩))
theorem rresume (M : Mq w base mb mg n cm q.now q.rows) (z : Int) :
    Calls Tryz.prog 35 #[.pointer (some ⟨mb, 0, none⟩), .int .i64 z] w fun e w' => ∃ r, e = .returned (.int .i64 r) ∧ RP w base mb mg n cm (markS n q z 3 2) r w' :=
  mresumeW z (rturn M z 3 2 _ (fun h => by unfold markS; rw [if_pos h]) (fun h h2 => by unfold markS; rw [if_neg (by simpa using h), if_pos h2]) (fun h h2 => by unfold markS; rw [if_neg (by simpa using h), if_neg (by simpa using h2)]; exact ⟨rfl, rfl, rfl⟩))
theorem strideV_fits (t : Int) : I64 (strideV t) := by
  cases hr : rightT t with
  | true =>
    have := strideQ_in hr
    unfold I64
    omega
  | false =>
    have e : strideV t = 0 := by unfold strideV; rw [hr]; rfl
    rw [e]
    decide
theorem renter (M : Mq w base mb mg n cm q.now q.rows) (hnow : I64 q.now) (z frm : Int) :
    Calls Tryz.prog 64 #[.pointer (some ⟨mb, 0, none⟩), .int .i64 z, .int .i64 frm, .int .i64 1, .bool true] w fun e w' => ∃ r, e = .returned (.int .i64 r) ∧ RP w base mb mg n cm (enterS n q z frm) r w' := by
  by_cases hi : inZ n z
  · obtain ⟨x, hz, hx, hzx⟩ := inZ_nat hi
    by_cases hst : (q.rows.getD x row0).st = frm
    · refine (menter M x z hz hx frm _ rfl hst hnow (strideV_fits _)).mono ?_
      rintro e w' ⟨he, k1, k2⟩
      have es : enterS n q z frm = (0, enterR q x) := by unfold enterS rowZ; rw [hzx, if_neg (by simpa using hi), if_neg (by simpa using hst)]
      rw [es]
      exact ⟨_, he, rfl, k1, k2⟩
    · refine (mturnNo M x z hz hx frm 1 true hst).mono ?_
      rintro e w' ⟨he, hw⟩
      exact ⟨_, he, rp_same M (by unfold enterS rowZ; rw [hzx, if_neg (by simpa using hi), if_pos hst]) hw⟩
  · refine (mturnOut M z (inZ_out hi) frm 1 true).mono ?_
    rintro e w' ⟨he, hw⟩
    exact ⟨_, he, rp_same M (by unfold enterS; rw [if_pos hi]) hw⟩
theorem rback (M : Mq w base mb mg n cm q.now q.rows) (hnow : I64 q.now) (z : Int) :
    Calls Tryz.prog 29 #[.pointer (some ⟨mb, 0, none⟩), .int .i64 z] w fun e w' => ∃ r, e = .returned (.int .i64 r) ∧ RP w base mb mg n cm (enterS n q z 2) r w' := mbackW z (renter M hnow z 2)
theorem rwake (M : Mq w base mb mg n cm q.now q.rows) (hnow : I64 q.now) (z : Int) :
    Calls Tryz.prog 33 #[.pointer (some ⟨mb, 0, none⟩), .int .i64 z] w fun e w' => ∃ r, e = .returned (.int .i64 r) ∧ RP w base mb mg n cm (enterS n q z 3) r w' := mwakeW z (renter M hnow z 3)
end Go.Proofs.YtabdipfpfbdghaaGreat

/- The queue's plain invariant, with the bounds of all passes; who waits, by the rows. -/
namespace Go.Proofs.YtabdipfpfbdghaaGreat
open Go.RowKit
/-- A queue behind k acts. -/
structure QJ (n : Nat) (q : QV) (k : Nat) : Prop where
  i : QI n q k
  ps : ∀ x, x < n → -((k : Int) * 1125899906842624) ≤ (q.rows.getD x row0).ps ∧ (q.rows.getD x row0).ps ≤ (k : Int) * 1099511627776 + 2199023255552
  z : ∀ x, x < n → (q.rows.getD x row0).st = 0 → (q.rows.getD x row0).ps = 0
variable {n k x : Nat} {q : QV}
theorem k2up (k : Nat) : ((k + 1 : Nat) : Int) * 1099511627776 = (k : Int) * 1099511627776 + 1099511627776 := by rw [Int.natCast_add, Int.add_mul]; rfl
theorem k3up (k : Nat) : ((k + 1 : Nat) : Int) * 1125899906842624 = (k : Int) * 1125899906842624 + 1125899906842624 := by rw [Int.natCast_add, Int.add_mul]; rfl
theorem k2le {k : Nat} (h : k ≤ 1000) : 0 ≤ (k : Int) * 1099511627776 ∧ (k : Int) * 1099511627776 ≤ 1099511627776000 := by omega
theorem k3le {k : Nat} (h : k ≤ 1000) : 0 ≤ (k : Int) * 1125899906842624 ∧ (k : Int) * 1125899906842624 ≤ 1125899906842624000 := by omega
theorem QJ.new (n : Nat) : QJ n (newR n) 0 := by
  have e : ∀ x, (newR n).rows.getD x row0 = row0 := by
    intro x
    show (List.replicate n row0).getD x row0 = row0
    rw [List.getD_eq_getElem?_getD, List.getElem?_replicate]
    split <;> rfl
  refine ⟨QI.new n, fun x hx => ?_, fun x hx _ => ?_⟩
  · rw [e]
    decide
  · rw [e]
    rfl
theorem QJ.set {q' : QV} (J : QJ n q k) (hx : x < n) (r : RowQ) (hr : -((k : Int) * 1125899906842624) ≤ r.ps ∧ r.ps ≤ (k : Int) * 1099511627776 + 3298534883328) (he : q'.rows = q.rows.set x r) (hz : r.st = 0 → r.ps = 0) (I : QI n q' (k + 1)) : QJ n q' (k + 1) := by
  refine ⟨I, fun y hy => ?_, fun y hy => ?_⟩
  · rw [he, k2up, k3up]
    by_cases e : y = x
    · subst e
      rw [getD_set_same' _ _ _ (by rw [J.i.len]; exact hx)]
      omega
    · rw [getD_set_other _ _ _ _ e]
      have := J.ps y hy
      omega
  · rw [he]
    by_cases e : y = x
    · subst e
      rw [getD_set_same' _ _ _ (by rw [J.i.len]; exact hx)]
      exact hz
    · rw [getD_set_other _ _ _ _ e]
      exact J.z y hy
theorem QJ.more (J : QJ n q k) : QJ n q (k + 1) := by
  refine ⟨J.i.more (by omega), fun y hy => ?_, J.z⟩
  rw [k2up, k3up]
  have := J.ps y hy
  omega
theorem QJ.nowI (J : QJ n q k) (hk : k ≤ 1000) : 0 ≤ q.now ∧ q.now ≤ 1099511627776000 ∧ I64 q.now := by
  have h1 := J.i.now
  have h2 := k2le hk
  unfold I64
  omega
theorem QJ.psI (J : QJ n q k) (hk : k ≤ 1000) (hx : x < n) : I64 (q.rows.getD x row0).ps ∧ I64 ((q.rows.getD x row0).ps - q.now) := by
  have h1 := J.i.now
  have h2 := k2le hk
  have h3 := k3le hk
  have h4 := J.ps x hx
  unfold I64
  omega
theorem QJ.join (J : QJ n q k) (hk : k ≤ 1000) (z t : Int) : QJ n (joinS n q z t).2 (k + 1) := by
  unfold joinS
  by_cases hi : inZ n z
  · rw [if_neg (by simpa using hi)]
    by_cases ht : strideV t = 0
    · rw [if_pos ht]; exact J.more
    · rw [if_neg ht]
      by_cases hs : (rowZ q z).st = 0
      · rw [if_neg (by simpa using hs)]
        obtain ⟨x, hz, hx, hzx⟩ := inZ_nat hi
        rw [hzx]
        unfold rowZ at hs
        rw [hzx] at hs
        have h1 := J.nowI hk
        have h2 := J.i.now
        have h3 := k3le hk
        exact J.set hx _ (by show _ ≤ q.now ∧ q.now ≤ _; omega) rfl (fun h => absurd (show (1 : Int) = 0 from h) (by decide)) (joinI J.i hx t (strideV_zero ht) hs)
      · rw [if_pos hs]; exact J.more
  · rw [if_pos hi]; exact J.more
theorem QJ.enter (J : QJ n q k) (hk : k ≤ 1000) (z frm : Int) (hf : frm = 2 ∨ frm = 3) : QJ n (enterS n q z frm).2 (k + 1) := by
  unfold enterS
  by_cases hi : inZ n z
  · rw [if_neg (by simpa using hi)]
    by_cases hs : (rowZ q z).st = frm
    · rw [if_neg (by simpa using hs)]
      obtain ⟨x, hz, hx, hzx⟩ := inZ_nat hi
      rw [hzx]
      unfold rowZ at hs
      rw [hzx] at hs
      have h1 := J.nowI hk
      have h2 := J.i.now
      have h3 := k3le hk
      have h4 := k2le hk
      have ht := J.i.tk x hx (by omega)
      have hsr := strideQ_in ht
      have he := enter_in (p := (q.rows.getD x row0).ps) (n := q.now) (s := strideV (q.rows.getD x row0).tk) (by unfold I64; omega) (by omega)
      exact J.set hx _ (by show _ ≤ enterV _ _ _ ∧ enterV _ _ _ ≤ _; omega) rfl (fun h => absurd (show (1 : Int) = 0 from h) (by decide)) (enterI J.i hk hx (by omega))
    · rw [if_pos hs]; exact J.more
  · rw [if_pos hi]; exact J.more
theorem markI' (I : QI n q k) (hx : x < n) (tgt : Int) (hs : (q.rows.getD x row0).st = 2 ∨ (q.rows.getD x row0).st = 3) (ht : tgt ≠ 1) : QI n (markR q x tgt) (k + 1) := by
  have hno : ¬ hasV q.h x := fun h => by have := (I.has x hx).1 h; omega
  have hnow := I.now
  have hk2 := k2up k
  have hp := I.pk x hx
  refine I.upd hx _ _ _ I.sd (fun y hy => ?_) (fun _ _ => rfl) (fun h => absurd h ht) (Int.le_refl _) (by omega) (fun y hy _ h => (I.key y hy h).2.1) (fun _ => I.tk x hx (by omega)) ⟨hp.1, by show (q.rows.getD x row0).pk ≤ _; omega⟩ (by omega)
  by_cases e : y = x
  · rw [if_pos e, e]; simp [hno, ht]
  · rw [if_neg e]
theorem takeI (I : QI n q k) (hx : x < n) (hs : (q.rows.getD x row0).st = 1) : QI n (takeR q x) (k + 1) := by
  have hnow := I.now
  have hk2 := k2up k
  have hp := I.pk x hx
  have hh := (I.has x hx).2 hs
  have T := out_ok I.sd _ x (place_ids I.sd x hh)
  refine I.upd hx _ _ _ T.sd (fun y hy => ?_) (fun y _ => by rw [T.ks]) (fun h => by simp at h) (Int.le_refl _) (by omega) (fun y hy _ h => (I.key y hy h).2.1) (fun _ => I.tk x hx (by omega)) ⟨hp.1, by show (q.rows.getD x row0).pk ≤ _; omega⟩ (by omega)
  rw [T.has]
  by_cases e : y = x
  · simp [e]
  · simp [e]
theorem QJ.mark (J : QJ n q k) (z frm tgt : Int) (hf : frm = 2 ∨ frm = 3) (ht : tgt ≠ 1 ∧ tgt ≠ 0) : QJ n (markS n q z frm tgt).2 (k + 1) := by
  unfold markS
  by_cases hi : inZ n z
  · rw [if_neg (by simpa using hi)]
    by_cases hs : (rowZ q z).st = frm
    · rw [if_neg (by simpa using hs)]
      obtain ⟨x, hz, hx, hzx⟩ := inZ_nat hi
      rw [hzx]
      unfold rowZ at hs
      rw [hzx] at hs
      have h4 := J.ps x hx
      exact J.set hx _ (by show _ ≤ (q.rows.getD x row0).ps ∧ (q.rows.getD x row0).ps ≤ _; omega) rfl (fun h => absurd h ht.2) (markI' J.i hx tgt (by omega) ht.1)
    · rw [if_pos hs]; exact J.more
  · rw [if_pos hi]; exact J.more
theorem QJ.take (J : QJ n q k) (z : Int) : QJ n (takeS n q z).2 (k + 1) := by
  unfold takeS
  by_cases hi : inZ n z
  · rw [if_neg (by simpa using hi)]
    by_cases hs : (rowZ q z).st = 1
    · rw [if_neg (by simpa using hs)]
      obtain ⟨x, hz, hx, hzx⟩ := inZ_nat hi
      rw [hzx]
      unfold rowZ at hs
      rw [hzx] at hs
      have h4 := J.ps x hx
      exact J.set hx _ (by show _ ≤ (q.rows.getD x row0).ps ∧ (q.rows.getD x row0).ps ≤ _; omega) rfl (fun h => absurd (show (2 : Int) = 0 from h) (by decide)) (takeI J.i hx hs)
    · rw [if_pos hs]; exact J.more
  · rw [if_pos hi]; exact J.more
theorem QJ.drop (J : QJ n q k) (z : Int) : QJ n (dropS n q z).2 (k + 1) := by
  unfold dropS
  by_cases hi : inZ n z
  · rw [if_neg (by simpa using hi)]
    by_cases hs : (rowZ q z).st = 0
    · rw [if_pos hs]; exact J.more
    · rw [if_neg hs]
      obtain ⟨x, hz, hx, hzx⟩ := inZ_nat hi
      rw [hzx]
      exact J.set hx _ (by show _ ≤ (0 : Int) ∧ (0 : Int) ≤ _; omega) rfl (fun _ => rfl) (dropI J.i hx)
  · rw [if_pos hi]; exact J.more
theorem QJ.pick (J : QJ n q k) (hx : q.h.ids[0]? = some x) : QJ n (pickR q x) (k + 1) := by
  obtain ⟨p1, p2, p3, p4, p5⟩ := pickI J.i hx
  obtain ⟨a1, a2, a3⟩ := J.i.key x p1 p2
  have ht := J.i.tk x p1 (by omega)
  have hsr := strideQ_in ht
  have h2 := J.i.now
  exact J.set p1 _ (by show _ ≤ q.h.ks.getD x 0 + strideV _ ∧ q.h.ks.getD x 0 + strideV _ ≤ _; omega) rfl (fun h => absurd (show (2 : Int) = 0 from h) (by decide)) p5
theorem lowRows_get (J : QJ n q k) (hx : x < n) : (lowRows q.rows q.now).getD x row0 = lowOne q.now (q.rows.getD x row0) := by
  unfold lowRows
  rw [lowTo_get _ _ _ (Nat.le_refl _), if_pos (by rw [J.i.len]; exact hx)]
theorem lowOne_st (v : Int) (r : RowQ) : (lowOne v r).st = r.st ∧ (lowOne v r).tk = r.tk ∧ (lowOne v r).pk = r.pk ∧ (r.st ≠ 0 → (lowOne v r).ps = r.ps - v) ∧ (r.st = 0 → (lowOne v r).ps = r.ps) := by
  unfold lowOne
  split
  · next h => exact ⟨rfl, rfl, rfl, fun _ => rfl, fun h2 => absurd h2 h⟩
  · next h => exact ⟨rfl, rfl, rfl, fun h2 => absurd h2 h, fun _ => rfl⟩
theorem QJ.lower (J : QJ n q k) (hk : k ≤ 1000) : QJ n (lowR q) (k + 1) := by
  have hg := fun x (hx : x < n) => lowRows_get J hx
  have I := J.i
  refine ⟨⟨lower_ok I.sd _, ?_, fun x hx => ?_, fun x hx => ?_, fun x hx => ?_, ⟨Int.le_refl _, by show (0 : Int) ≤ _; omega⟩, fun x hx => ?_⟩, fun x hx => ?_, fun x hx => ?_⟩
  · show (lowTo _ _ _).length = n
    rw [lowTo_len]
    exact I.len
  · show hasV q.h x ↔ ((lowRows q.rows q.now).getD x row0).st = 1
    rw [hg x hx, (lowOne_st _ _).1]
    exact I.has x hx
  · show ((lowRows q.rows q.now).getD x row0).st ≠ 0 → rightT ((lowRows q.rows q.now).getD x row0).tk = true
    rw [hg x hx, (lowOne_st _ _).1, (lowOne_st _ _).2.1]
    exact I.tk x hx
  · show ((lowRows q.rows q.now).getD x row0).st = 1 → (lowerV q.h q.now).ks.getD x 0 = ((lowRows q.rows q.now).getD x row0).ps ∧ (0 : Int) ≤ ((lowRows q.rows q.now).getD x row0).ps ∧ ((lowRows q.rows q.now).getD x row0).ps ≤ 0 + strideV ((lowRows q.rows q.now).getD x row0).tk
    rw [hg x hx, (lowOne_st _ _).1, (lowOne_st _ _).2.1]
    intro h1
    rw [(lowOne_st _ _).2.2.2.1 (by omega), lowerV_key I.sd _ (has_mem.1 ((I.has x hx).2 h1))]
    have := I.key x hx h1
    omega
  · show 0 ≤ ((lowRows q.rows q.now).getD x row0).pk ∧ ((lowRows q.rows q.now).getD x row0).pk ≤ _
    rw [hg x hx, (lowOne_st _ _).2.2.1]
    have := I.pk x hx
    omega
  · show _ ≤ ((lowRows q.rows q.now).getD x row0).ps ∧ ((lowRows q.rows q.now).getD x row0).ps ≤ _
    rw [hg x hx, k2up, k3up]
    have h1 := J.ps x hx
    have h2 := J.nowI hk
    by_cases hs : (q.rows.getD x row0).st = 0
    · rw [(lowOne_st _ _).2.2.2.2 hs]
      omega
    · rw [(lowOne_st _ _).2.2.2.1 hs]
      omega
  · show ((lowRows q.rows q.now).getD x row0).st = 0 → ((lowRows q.rows q.now).getD x row0).ps = 0
    rw [hg x hx, (lowOne_st _ _).1]
    intro h
    rw [(lowOne_st _ _).2.2.2.2 h]
    exact J.z x hx h
/-- Who waits, by the rows. -/
theorem wait_perm (I : QI n q k) : q.h.ids.Perm (wIds q.rows n) := by
  refine (List.perm_ext_iff_of_nodup (nodup_ids I.sd) (wIds_nodup _ _)).2 (fun x => ?_)
  rw [wIds_mem, ← has_mem]
  exact ⟨fun h => ⟨has_lt I.sd h, (I.has x (has_lt I.sd h)).1 h⟩, fun h => (I.has x h.1).2 h.2⟩
theorem wait_eq (I : QI n q k) : byKeys (pks q.rows) (wIds q.rows n) = byKeys q.h.ks q.h.ids := by
  refine (byKeys_uniq' ((byKeys_perm' _ _).trans (wait_perm I)) ?_).symm
  refine (byKeys_ord' q.h.ks q.h.ids).imp_of_mem (fun {a b} ha hb h => ?_)
  have e : ∀ y, y ∈ byKeys q.h.ks q.h.ids → (pks q.rows).getD y 0 = q.h.ks.getD y 0 := fun y hy => by
    have h1 := has_mem.2 ((byKeys_perm' _ _).mem_iff.1 hy)
    have h2 := has_lt I.sd h1
    rw [pks_get _ _ (by rw [I.len]; exact h2)]
    exact ((I.key y h2 ((I.has y h2).1 h1)).1).symm
  unfold leK at *
  rw [e a ha, e b hb]
  exact h
theorem pick_head (I : QI n q k) (hx : q.h.ids[0]? = some x) : ∃ L, byKeys (pks q.rows) (wIds q.rows n) = x :: L := by
  rw [wait_eq I]
  have hm : x ∈ byKeys q.h.ks q.h.ids := (byKeys_perm' _ _).mem_iff.2 (List.mem_of_getElem? hx)
  have ho := byKeys_ord' q.h.ks q.h.ids
  cases hb : byKeys q.h.ks q.h.ids with
  | nil => rw [hb] at hm; cases hm
  | cons y L =>
    rw [hb] at hm ho
    refine ⟨L, ?_⟩
    rcases List.mem_cons.1 hm with e | e
    · rw [e]
    · have h1 := (List.pairwise_cons.1 ho).1 x e
      have hy : y ∈ q.h.ids := (byKeys_perm' q.h.ks q.h.ids).mem_iff.1 (by rw [hb]; simp)
      have h2 := first_least I.sd x hx y (has_mem.2 hy)
      have e2 : y = x := by unfold leK at *; omega
      rw [e2]
theorem pick_nil (I : QI n q k) (hx : q.h.ids[0]? = none) : wIds q.rows n = [] := by
  have h0 : q.h.ids = [] := by
    cases h : q.h.ids with
    | nil => rfl
    | cons y L => rw [h] at hx; simp at hx
  have := (wait_perm I).length_eq
  rw [h0] at this
  exact List.length_eq_zero_iff.1 this.symm
end Go.Proofs.YtabdipfpfbdghaaGreat
