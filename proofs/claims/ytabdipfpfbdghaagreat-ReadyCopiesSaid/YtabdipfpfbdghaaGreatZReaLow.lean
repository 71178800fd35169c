/- The queue's Lower. -/
import Derived.Test.YtabdipfpfbdghaaGreatZReaAct2
import Derived.Test.YtabdipfpfbdghaaGreatZSortW
namespace Go.Proofs.YtabdipfpfbdghaaGreat
open Go.RowKit
variable {TK : Nat → Prop} {w0 : FrQ} {w : World} {b g c hb n : Nat} {q : QV}
def lowOne (v : Int) (r : RowQ) : RowQ := if r.st ≠ 0 then ⟨r.st, r.tk, r.ps - v, r.pk⟩ else r
/-- The first ones are lowered. -/
def lowTo (rows : List RowQ) (v : Int) : Nat → List RowQ
  | 0 => rows
  | k + 1 => (lowTo rows v k).set k (lowOne v ((lowTo rows v k).getD k row0))
theorem lowTo_len (rows : List RowQ) (v : Int) : ∀ k, (lowTo rows v k).length = rows.length
  | 0 => rfl
  | k + 1 => by simp [lowTo, lowTo_len rows v k]
theorem lowTo_get (rows : List RowQ) (v : Int) : ∀ (k : Nat), k ≤ rows.length → ∀ i, (lowTo rows v k).getD i row0 = if i < k then lowOne v (rows.getD i row0) else rows.getD i row0
  | 0, _, i => by simp [lowTo]
  | k + 1, hk, i => by
    have ih := lowTo_get rows v k (by omega)
    have hl := lowTo_len rows v k
    unfold lowTo
    by_cases e : i = k
    · subst e
      rw [getD_set_same' _ _ _ (by omega), ih, if_neg (Nat.lt_irrefl _), if_pos (by omega)]
    · rw [getD_set_other _ _ _ _ e, ih]
      by_cases h : i < k
      · rw [if_pos h, if_pos (by omega)]
      · rw [if_neg h, if_neg (by omega)]
/-- All rows are lowered. -/
def lowRows (rows : List RowQ) (v : Int) : List RowQ := lowTo rows v rows.length
def lowR (q : QV) : QV := ⟨0, lowRows q.rows q.now, lowerV q.h q.now⟩
theorem lowTo_same (rows : List RowQ) (v : Int) {k : Nat} (hk : k < rows.length) (h : (rows.getD k row0).st = 0) : lowTo rows v (k + 1) = lowTo rows v k := by
  have e1 := lowTo_get rows v k (by omega) k
  rw [if_neg (Nat.lt_irrefl _)] at e1
  show (lowTo rows v k).set k (lowOne v ((lowTo rows v k).getD k row0)) = lowTo rows v k
  rw [e1]
  unfold lowOne
  rw [if_neg (by simpa using h), ← e1]
  apply List.ext_getElem?
  intro i
  rw [List.getElem?_set]
  by_cases e : k = i
  · subst e
    have hl := lowTo_len rows v k
    rw [if_pos rfl, if_pos (by omega)]
    simp [List.getD_eq_getElem?_getD, show k < (lowTo rows v k).length by omega]
  · rw [if_neg e]
theorem Qx.lower (Q : Qx TK w0 w b g c hb n q) (hn : n ≤ 4096) (h0 : 0 < n) (hk : KR q.h) (z : Int) (hz : I64 z) (hf : ∀ x ∈ q.h.ids, I64 (q.h.ks.getD x 0 - z)) :
    Calls Tryz.prog 45 #[.pointer (some ⟨hb, 0, none⟩), .int .i64 z] w fun e w' => e = .returned (.int .i64 0) ∧ Hid (Qx TK w0 w' b g c hb n ⟨q.now, q.rows, lowerV q.h z⟩) := by
  obtain ⟨⟨gk, gp, ck, cp, iv, Q1, QT⟩, Q2⟩ := Q
  refine (hlowerOk Q1.hp Q1.sd hn h0 hk z hz hf).mono ?_
  rintro e w' ⟨rfl, hA⟩
  exact ⟨rfl, Lib.hid (Qx.acts Q1 QT Q2 hA (lower_ok Q1.sd z)).1⟩
set_option maxRecDepth 100000 in
set_option maxHeartbeats 8000000 in
/-- Lower. -/
theorem qlower {k0 : Nat} (Q : Qx TK w0 w b g c hb n q) (I : QI n q k0) (hn : n ≤ 4096) (h0 : 0 < n) (hnow : I64 q.now) (hps : ∀ x, x < n → I64 (q.rows.getD x row0).ps ∧ I64 ((q.rows.getD x row0).ps - q.now)) :
    Calls Tryz.prog 12 #[.pointer (some ⟨b, 0, none⟩)] w fun e w' => e = .returned (.int .i64 q.now) ∧ Hid (Qx TK w0 w' b g c hb n (lowR q)) := by
  obtain ⟨b0, b1, b2⟩ := Q.box
  have HM := Lib.hid (qmade b hb w b2.cell)
  have k1 := b1.cell
  have HQ := Lib.hid Q
  have HLN := Lib.hid Q.rowsN
  have hin : ∀ x ∈ q.h.ids, x < n ∧ q.h.ks.getD x 0 = (q.rows.getD x row0).ps := fun x hx => by
    have h1 := has_lt I.sd (has_mem.2 hx)
    exact ⟨h1, (I.key x h1 ((I.has x h1).1 (has_mem.2 hx))).1⟩
  have HLOW := Lib.hid (fun W (h : Qx TK w0 W b g c hb n q) => h.lower hn h0 (fun x hx => by
    obtain ⟨h1, h2⟩ := hin x hx
    rw [h2]
    exact (hps x h1).1) q.now hnow (fun x hx => by
    obtain ⟨h1, h2⟩ := hin x hx
    rw [h2]
    exact (hps x h1).2))
  have HPS := Lib.hid hps
  have HNW := Lib.hid hnow
  clear Q I b0 b1 b2 hin hps hnow h0
  go_enter Tryz.func12, Tryz.ntmps12
  go_wp2_with (go_at_call 41; (with_reducible refine HM.out.mono ?_); rintro e w1 ⟨rfl, rfl⟩)
  go_loopw [17] (fun i wr => ∃ (j : Nat), j ≤ n ∧ i = .int .i64 j ∧ Hid (Below w.heap.size w wr)) (fun i _ => n - (intOf i).toNat)
  case atStart => exact ⟨0, Nat.zero_le _, rfl, Lib.hid (Below.refl _ _)⟩
  case round =>
    obtain ⟨j, hjn0, rfl, HB⟩ := hrel
    by_cases hjn : j < n
    · have hjn' : (j : Int) < (n : Int) := by omega
      have Q1 := HQ.out.below HB.out
      obtain ⟨r0, r1, r2, r3⟩ := Q1.row hjn
      have c0 := r0.cell
      have c1 := r1.cell
      have c2 := r2.cell
      have c3 := r3.cell
      have hp := HPS.out j hjn
      obtain ⟨r, hr⟩ : ∃ r, q.rows.getD j row0 = r := ⟨_, rfl⟩
      rw [hr] at c0 c1 c2 c3 hp
      obtain ⟨W5, hW5⟩ : ∃ W5, W5 = wr.alloc (.cells #[.int .i64 r.st, .int .i64 r.tk, .int .i64 r.ps, .int .i64 r.pk] (61 : Nat)) := ⟨_, rfl⟩
      have hal : Below wr.heap.size wr W5 := by rw [hW5]; exact below_al (Below.refl _ _) _
      have y0 : W5.cell? ⟨wr.heap.size, 0, none⟩ = some (.int .i64 r.st) := by rw [hW5]; go_simp
      have y2 : W5.cell? ⟨wr.heap.size, 2, none⟩ = some (.int .i64 r.ps) := by rw [hW5]; go_simp
      have HB5 := Lib.hid (below_then HB.out HB.out.size hal)
      have Q5 := HQ.out.below HB5.out
      have HSB := Lib.hid (nsub r.ps q.now hp.1 HNW.out)
      rw [(fit_yes hp.2).1, (fit_yes hp.2).2] at HSB
      have kn := Q5.box.1.cell
      obtain ⟨B5, hB5⟩ : ∃ x, x = wr.heap.size := ⟨_, rfl⟩
      rw [← hB5] at y0 y2
      have HY0 := Lib.hid y0
      obtain ⟨st, hst⟩ : ∃ x, r.st = x := ⟨_, rfl⟩
      obtain ⟨ps, hpe⟩ : ∃ x, r.ps = x := ⟨_, rfl⟩
      obtain ⟨nw, hnw⟩ : ∃ x, q.now = x := ⟨_, rfl⟩
      rw [hst] at HY0
      rw [hpe] at y2 HSB
      rw [hnw] at kn HSB
      have z2 := fun (p : Behind W5) => cell_below p.hb y2
      have z3 := fun (p : Behind W5) => cell_below p.hb kn
      have q3 := fun (p : Behind W5) => (HSB.out p.W).mono (fun e W' (h : _ ∧ p.W = W') => (⟨h.1, p, h.2.symm⟩ : e = _ ∧ ∃ p' : Behind W5, W' = p'.W))
      clear r0 r1 r2 r3 Q1 Q5 hr hp y0 y2 hst hpe hnw kn
      go_wp2_with fail
      rw [← hW5, ← hB5]
      clear hB5 hW5 hal c0 c1 c2 c3
      refine wp_behind (by kernel_rfl) (by kernel_rfl) ?_
      repeat (quiet_step (exact q3 _))
      refine wpQuiet_nil ?_
      rintro W6 ⟨⟨_, hb6⟩, rfl⟩
      have y0 := cell_below hb6 HY0.out
      have HB6 := Lib.hid (below_then HB5.out HB5.out.size hb6)
      clear z2 z3 q3
      by_cases hs0 : st = 0
      · subst hs0
        go_wp2
        go_roundw
        case rel => exact ⟨j + 1, by omega, by go_num, HB6⟩
        case measure => simp only [intOf]; omega
      · have hs1 : (st != 0) = true := by simp [hs0]
        go_wp2
        go_roundw
        case rel => exact ⟨j + 1, by omega, by go_num, HB6⟩
        case measure => simp only [intOf]; omega
    · have HQ1 := Lib.hid (HQ.out.below HB.out)
      obtain ⟨W1, rfl⟩ : ∃ x, x = wr := ⟨_, rfl⟩
      have kn := HQ1.out.box.1.cell
      have kh := HQ1.out.box.2.2.cell
      clear k1
      go_wp2_with (go_at_call 45; fail)
      refine (HLOW.out _ HQ1.out).mono ?_
      rintro e w2 ⟨rfl, HQ2⟩
      have k1 := HQ2.out.box.2.1.cell
      clear kn kh
      go_wp2
      go_loopw [54] (fun i wr => ∃ (j : Nat), j ≤ n ∧ i = .int .i64 j ∧ Hid (Qx TK w0 wr b g c hb n ⟨q.now, lowTo q.rows q.now j, lowerV q.h q.now⟩)) (fun i _ => n - (intOf i).toNat)
      case atStart => exact ⟨0, Nat.zero_le _, rfl, HQ2⟩
      case round =>
        obtain ⟨j, hjn0, rfl, HQ3⟩ := hrel
        clear k1
        by_cases hjn : j < n
        · have hjn' : (j : Int) < (n : Int) := by omega
          have k1 := HQ3.out.box.2.1.cell
          obtain ⟨r0, _, r2, _⟩ := HQ3.out.row hjn
          have hg := lowTo_get q.rows q.now j (by rw [HLN.out]; exact hjn0) j
          rw [if_neg (Nat.lt_irrefl _)] at hg
          dsimp only at r0 r2
          rw [hg] at r0 r2
          have hp := HPS.out j hjn
          by_cases hst : (q.rows.getD j row0).st = 0
          · have es := lowTo_same q.rows q.now (show j < q.rows.length by rw [HLN.out]; exact hjn) hst
            have HQ4 : Hid (Qx TK w0 wr b g c hb n ⟨q.now, lowTo q.rows q.now (j + 1), lowerV q.h q.now⟩) := Lib.hid (by rw [es]; exact HQ3.out)
            rw [hst] at r0
            have c0 := r0.cell
            clear r0 r2 hg es hst hp
            go_wp2
            go_roundw
            case rel => exact ⟨j + 1, by omega, by go_num, HQ4⟩
            case measure => simp only [intOf]; omega
          · have hs1 : ((q.rows.getD j row0).st != 0) = true := by simpa using hst
            have hset : (rowC ((lowTo q.rows q.now j).getD j row0)).set 2 (.int .i64 ((q.rows.getD j row0).ps - q.now)) = rowC (lowOne q.now ((lowTo q.rows q.now j).getD j row0)) := by
              rw [hg]
              unfold lowOne
              rw [if_pos hst]
              rfl
            have HQ4 := Lib.hid (HQ3.out.setRow hjn 2 (by decide) (.int .i64 ((q.rows.getD j row0).ps - q.now)) _ hset)
            have ws := sub_wrap hp.2
            generalize (q.rows.getD j row0).st = st at r0 hs1
            generalize (q.rows.getD j row0).ps = ps at r2 HQ4 ws
            have c0 := r0.cell
            have c2 := r2.cell
            have f2 := r2.free
            clear r0 r2 hg hst hp hset
            go_wp2
            go_roundw
            case rel => exact ⟨j + 1, by omega, by go_num, HQ4⟩
            case measure => simp only [intOf]; omega
        · obtain rfl : n = j := by omega
          have HQ4 := Lib.hid (HQ3.out.setNow 0)
          have c0 := HQ3.out.box.1.cell
          have f0 := HQ3.out.box.1.free
          have HE : Hid (lowR q = ⟨0, lowTo q.rows q.now n, lowerV q.h q.now⟩) := Lib.hid (by unfold lowR lowRows; rw [HLN.out])
          clear HQ3
          go_wp2
          go_ret
          exact ⟨rfl, by rw [HE.out]; exact HQ4⟩
end Go.Proofs.YtabdipfpfbdghaaGreat
