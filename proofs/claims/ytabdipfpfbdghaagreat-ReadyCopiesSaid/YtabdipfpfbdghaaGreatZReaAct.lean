/- The queue's acts, each with just what it tells and leaves. -/
import Derived.Test.YtabdipfpfbdghaaGreatZReaSoundK
namespace Go.Proofs.YtabdipfpfbdghaaGreat
open Go.RowKit
variable {TK : Nat → Prop} {w0 : FrQ} {w : World} {b g c hb n : Nat} {q : QV}
/-- Is it a thread's number? -/
def inZ (n : Nat) (z : Int) : Prop := 0 ≤ z ∧ z < n
instance (n : Nat) (z : Int) : Decidable (inZ n z) := by unfold inZ; infer_instance
def rowZ (q : QV) (z : Int) : RowQ := q.rows.getD z.toNat row0
def joinS (n : Nat) (q : QV) (z t : Int) : Int × QV := if ¬ inZ n z then (8, q) else if strideV t = 0 then (2, q) else if (rowZ q z).st ≠ 0 then (5, q) else (0, joinR q z.toNat t)
def enterS (n : Nat) (q : QV) (z frm : Int) : Int × QV := if ¬ inZ n z then (8, q) else if (rowZ q z).st ≠ frm then (5, q) else (0, enterR q z.toNat)
def markS (n : Nat) (q : QV) (z frm tgt : Int) : Int × QV := if ¬ inZ n z then (8, q) else if (rowZ q z).st ≠ frm then (5, q) else (0, markR q z.toNat tgt)
def takeR (q : QV) (x : Nat) : QV := ⟨q.now, q.rows.set x ⟨2, (q.rows.getD x row0).tk, (q.rows.getD x row0).ps, (q.rows.getD x row0).pk⟩, outV q.h (placeV q.h x)⟩
def takeS (n : Nat) (q : QV) (z : Int) : Int × QV := if ¬ inZ n z then (8, q) else if (rowZ q z).st ≠ 1 then (5, q) else (0, takeR q z.toNat)
def dropS (n : Nat) (q : QV) (z : Int) : Int × QV := if ¬ inZ n z then (8, q) else if (rowZ q z).st = 0 then (4, q) else (0, dropR q z.toNat)
/-- An act's post. -/
def QP (w0 : FrQ) (b g c hb n : Nat) (s : Int × QV) (e : Ending) (w' : World) : Prop := e = .returned (.int .i64 s.1) ∧ Hid (Qx NoT w0 w' b g c hb n s.2)
theorem qp_same (Q : Qx TK w0 w b g c hb n q) {r : Int} {s : Int × QV} (hs : s = (r, q)) {e : Ending} (he : e = .returned (.int .i64 r)) {w' : World} (hw : Below w.heap.size w w') : QP w0 b g c hb n s e w' := by
  rw [hs]
  exact ⟨he, Lib.hid (Q.below hw).free⟩
theorem strideV_zero {t : Int} (h : strideV t ≠ 0) : rightT t = true := by
  cases hr : rightT t with
  | true => rfl
  | false => exact absurd (by unfold strideV; rw [hr]; rfl) h
set_option maxHeartbeats 1000000 in
theorem qjoinArgK (Q : Qx TK w0 w b g c hb n q) (x : Nat) (z t : Int) (hz : z = (x : Int)) (hx : x < n) (ht : strideV t = 0) :
    Calls Tryz.prog 21 #[.pointer (some ⟨b, 0, none⟩), .int .i64 z, .int .i64 t] w fun e w' => e = .returned (.int .i64 2) ∧ Hid (Below w.heap.size w w') := by
  have HF := Lib.hid (qfind Q x z hz hx)
  have HS := Lib.hid (sstride t w)
  rw [ht] at HS
  subst hz
  clear Q ht
  go_enter Tryz.func21, Tryz.ntmps21
  go_wp2_with (first
    | (go_at_call 51; (with_reducible refine HF.out.mono ?_); rintro e w1 ⟨rfl, rfl⟩)
    | (go_at_call 53; (with_reducible refine HS.out.mono ?_); rintro e w1 ⟨rfl, hb1⟩))
  go_ret
  exact ⟨rfl, hb1⟩
set_option maxHeartbeats 1000000 in
theorem qjoinStK (Q : Qx TK w0 w b g c hb n q) (x : Nat) (z t : Int) (hz : z = (x : Int)) (hx : x < n) (ht : strideV t ≠ 0) (hst : (q.rows.getD x row0).st ≠ 0) :
    Calls Tryz.prog 21 #[.pointer (some ⟨b, 0, none⟩), .int .i64 z, .int .i64 t] w fun e w' => e = .returned (.int .i64 5) ∧ Hid (Below w.heap.size w w') := by
  have HF := Lib.hid (qfind Q x z hz hx)
  have HS := Lib.hid (sstride t w)
  generalize strideV t = s at HS ht
  subst hz
  obtain ⟨r0, _⟩ := Q.row hx
  have HK := Lib.hid r0.cell
  generalize (q.rows.getD x row0).st = st at hst HK
  clear Q r0
  go_enter Tryz.func21, Tryz.ntmps21
  go_wp2_with (first
    | (go_at_call 51; (with_reducible refine HF.out.mono ?_); rintro e w1 ⟨rfl, rfl⟩)
    | (go_at_call 53; (with_reducible refine HS.out.mono ?_); rintro e w1 ⟨rfl, hb1⟩; have k1 := cell_below hb1 HK.out))
  go_ret
  exact ⟨rfl, hb1⟩
set_option maxHeartbeats 1000000 in
theorem qjoinOutK (Q : Qx TK w0 w b g c hb n q) (z t : Int) (hz : z < 0 ∨ (n : Int) ≤ z) :
    Calls Tryz.prog 21 #[.pointer (some ⟨b, 0, none⟩), .int .i64 z, .int .i64 t] w fun e w' => e = .returned (.int .i64 8) ∧ Hid (Below w.heap.size w w') := by
  have HF := Lib.hid (qfindNo Q z hz)
  clear Q hz
  go_enter Tryz.func21, Tryz.ntmps21
  go_wp2_with (go_at_call 51; (with_reducible refine HF.out.mono ?_); rintro e w1 ⟨rfl, rfl⟩)
  go_ret
  exact ⟨rfl, Lib.hid (Below.refl _ _)⟩
theorem inZ_nat {n : Nat} {z : Int} (h : inZ n z) : ∃ x : Nat, z = (x : Int) ∧ x < n ∧ z.toNat = x := ⟨z.toNat, by unfold inZ at h; omega, by unfold inZ at h; omega, rfl⟩
theorem inZ_out {n : Nat} {z : Int} (h : ¬ inZ n z) : z < 0 ∨ (n : Int) ≤ z := by unfold inZ at h; omega
theorem qjoinK {k : Nat} (Q : Qx TK w0 w b g c hb n q) (I : QI n q k) (hn : n ≤ 4096) (z t : Int) :
    Calls Tryz.prog 21 #[.pointer (some ⟨b, 0, none⟩), .int .i64 z, .int .i64 t] w (QP w0 b g c hb n (joinS n q z t)) := by
  by_cases hi : inZ n z
  · obtain ⟨x, hz, hx, hzx⟩ := inZ_nat hi
    by_cases ht : strideV t = 0
    · refine (qjoinArgK Q x z t hz hx ht).mono ?_
      rintro e w' ⟨he, hb1⟩
      exact qp_same Q (by unfold joinS; rw [if_neg (by simpa using hi), if_pos ht]) he hb1.out
    · by_cases hst : (q.rows.getD x row0).st = 0
      · refine (qjoin Q hn x z t hz hx (strideV_zero ht) hst (fun h => by have := (I.has x hx).1 h; omega)).mono ?_
        rintro e w' ⟨he, h1⟩
        have es : joinS n q z t = (0, joinR q x t) := by unfold joinS rowZ; rw [hzx, if_neg (by simpa using hi), if_neg ht, if_neg (by simpa using hst)]
        rw [es]
        exact ⟨he, Lib.hid h1.free⟩
      · refine (qjoinStK Q x z t hz hx ht hst).mono ?_
        rintro e w' ⟨he, hb1⟩
        exact qp_same Q (by unfold joinS rowZ; rw [hzx, if_neg (by simpa using hi), if_neg ht, if_pos hst]) he hb1.out
  · refine (qjoinOutK Q z t (inZ_out hi)).mono ?_
    rintro e w' ⟨he, hb1⟩
    exact qp_same Q (by unfold joinS; rw [if_pos hi]) he hb1.out
set_option maxRecDepth 100000 in
set_option maxHeartbeats 4000000 in
theorem qenterOut (Q : Qx TK w0 w b g c hb n q) (z : Int) (hz : z < 0 ∨ (n : Int) ≤ z) (frm : Int) :
    Calls Tryz.prog 57 #[.pointer (some ⟨b, 0, none⟩), .int .i64 z, .int .i64 frm] w fun e w' => e = .returned (.int .i64 8) ∧ Hid (Qx NoT w0 w' b g c hb n q) := by
  have hal : Below w.heap.size w ((w.alloc (.cells #[.pointer (some ⟨b, 0, none⟩)] (24 : Nat))).alloc (.cells #[.int .i64 z] (3 : Nat))) := below_al (below_al (Below.refl _ _) _) _
  have HT := Lib.hid (fun fv => qturnOut (Q.below hal) z hz frm 1 fv)
  have HQ := Lib.hid (Q.below hal).free
  clear Q hz hal
  go_enter Tryz.func57, Tryz.ntmps57
  go_wp2_with (go_at_call 61; (with_reducible refine (HT.out _).mono ?_); rintro e w2 ⟨rfl, rfl⟩)
  go_ret
  exact ⟨rfl, HQ⟩
theorem qenterK {k : Nat} (Q : Qx TK w0 w b g c hb n q) (I : QI n q k) (hk : k ≤ 1000) (hn : n ≤ 4096) (z frm : Int) (hf : frm = 2 ∨ frm = 3) :
    Calls Tryz.prog 57 #[.pointer (some ⟨b, 0, none⟩), .int .i64 z, .int .i64 frm] w (QP w0 b g c hb n (enterS n q z frm)) := by
  have hnow : I64 q.now := by
    have := I.now
    have hk3 : (k : Int) * 1099511627776 ≤ 1000 * 1099511627776 := Int.mul_le_mul_of_nonneg_right (by omega) (by omega)
    unfold I64
    omega
  by_cases hi : inZ n z
  · obtain ⟨x, hz, hx, hzx⟩ := inZ_nat hi
    by_cases hst : (q.rows.getD x row0).st = frm
    · refine (qenter Q hn x z hz hx frm hst (fun h => by have := (I.has x hx).1 h; omega) hnow (I.tk x hx (by omega))).mono ?_
      rintro e w' ⟨he, h1⟩
      have es : enterS n q z frm = (0, enterR q x) := by unfold enterS rowZ; rw [hzx, if_neg (by simpa using hi), if_neg (by simpa using hst)]
      rw [es]
      exact ⟨he, Lib.hid h1⟩
    · refine (qenterNo Q x z hz hx frm hst).mono ?_
      rintro e w' ⟨he, h1⟩
      have es : enterS n q z frm = (5, q) := by unfold enterS rowZ; rw [hzx, if_neg (by simpa using hi), if_pos hst]
      rw [es]
      exact ⟨he, Lib.hid h1⟩
  · refine (qenterOut Q z (inZ_out hi) frm).mono ?_
    rintro e w' ⟨he, h1⟩
    have es : enterS n q z frm = (8, q) := by unfold enterS; rw [if_pos hi]
    rw [es]
    exact ⟨he, h1⟩
theorem qbackK {k : Nat} (Q : Qx TK w0 w b g c hb n q) (I : QI n q k) (hk : k ≤ 1000) (hn : n ≤ 4096) (z : Int) :
    Calls Tryz.prog 23 #[.pointer (some ⟨b, 0, none⟩), .int .i64 z] w (QP w0 b g c hb n (enterS n q z 2)) := by
  have HE := Lib.hid (qenterK Q I hk hn z 2 (.inl rfl))
  unfold QP at HE ⊢
  generalize enterS n q z 2 = s at HE ⊢
  clear Q I
  go_enter Tryz.func23, Tryz.ntmps23
  go_wp2_with (go_at_call 57; (with_reducible refine HE.out.mono ?_); rintro e w2 ⟨rfl, hQ⟩)
  go_ret
  exact ⟨rfl, hQ⟩
theorem qwakeK {k : Nat} (Q : Qx TK w0 w b g c hb n q) (I : QI n q k) (hk : k ≤ 1000) (hn : n ≤ 4096) (z : Int) :
    Calls Tryz.prog 32 #[.pointer (some ⟨b, 0, none⟩), .int .i64 z] w (QP w0 b g c hb n (enterS n q z 3)) := by
  have HE := Lib.hid (qenterK Q I hk hn z 3 (.inr rfl))
  unfold QP at HE ⊢
  generalize enterS n q z 3 = s at HE ⊢
  clear Q I
  go_enter Tryz.func32, Tryz.ntmps32
  go_wp2_with (go_at_call 57; (with_reducible refine HE.out.mono ?_); rintro e w2 ⟨rfl, hQ⟩)
  go_ret
  exact ⟨rfl, hQ⟩
/-- turn, with what does nothing else. -/
theorem qmarkK (Q : Qx TK w0 w b g c hb n q) (z frm tgt : Int) :
    Calls Tryz.prog 61 #[.pointer (some ⟨b, 0, none⟩), .int .i64 z, .int .i64 frm, .int .i64 tgt, .func (.func 65) #[] #[]] w (QP w0 b g c hb n (markS n q z frm tgt)) := by
  by_cases hi : inZ n z
  · obtain ⟨x, hz, hx, hzx⟩ := inZ_nat hi
    by_cases hst : (q.rows.getD x row0).st = frm
    · have eg : ∀ args w, (callFunc 65 args).run Tryz.prog w = .ok (.enter 65 args) w := Go.Proofs.enters_of Tryz.func65 (by kernel_rfl) rfl
      have Q1 := (Q.setRow hx 0 (by decide) (.int .i64 tgt) ⟨tgt, (q.rows.getD x row0).tk, (q.rows.getD x row0).ps, (q.rows.getD x row0).pk⟩ rfl).free
      refine (qturn Q x z hz hx frm tgt hst 65 #[] eg (fun w' => Qx NoT w0 w' b g c hb n (markR q x tgt)) ((qstay _ _).mono (fun e w' ⟨h1, h2⟩ => ⟨h1, h2 ▸ Q1⟩))).mono ?_
      rintro e w' ⟨he, h1⟩
      have es : markS n q z frm tgt = (0, markR q x tgt) := by unfold markS rowZ; rw [hzx, if_neg (by simpa using hi), if_neg (by simpa using hst)]
      rw [es]
      exact ⟨he, Lib.hid h1⟩
    · refine (qturnNo Q x z hz hx frm tgt hst _).mono ?_
      rintro e w' ⟨he, rfl⟩
      exact qp_same Q (by unfold markS rowZ; rw [hzx, if_neg (by simpa using hi), if_pos hst]) he (Below.refl _ _)
  · refine (qturnOut Q z (inZ_out hi) frm tgt _).mono ?_
    rintro e w' ⟨he, rfl⟩
    exact qp_same Q (by unfold markS; rw [if_pos hi]) he (Below.refl _ _)
theorem qblockK (Q : Qx TK w0 w b g c hb n q) (z : Int) :
    Calls Tryz.prog 30 #[.pointer (some ⟨b, 0, none⟩), .int .i64 z] w (QP w0 b g c hb n (markS n q z 2 3)) := by
  have HE := Lib.hid (qmarkK Q z 2 3)
  unfold QP at HE ⊢
  generalize markS n q z 2 3 = s at HE ⊢
  clear Q
  go_enter Tryz.func30, Tryz.ntmps30
  go_wp2_with (go_at_call 61; (with_reducible refine HE.out.mono ?_); rintro e w2 ⟨rfl, hQ⟩)
  go_ret
  exact ⟨rfl, hQ⟩
theorem qresumeK (Q : Qx TK w0 w b g c hb n q) (z : Int) :
    Calls Tryz.prog 34 #[.pointer (some ⟨b, 0, none⟩), .int .i64 z] w (QP w0 b g c hb n (markS n q z 3 2)) := by
  have HE := Lib.hid (qmarkK Q z 3 2)
  unfold QP at HE ⊢
  generalize markS n q z 3 2 = s at HE ⊢
  clear Q
  go_enter Tryz.func34, Tryz.ntmps34
  go_wp2_with (go_at_call 61; (with_reducible refine HE.out.mono ?_); rintro e w2 ⟨rfl, hQ⟩)
  go_ret
  exact ⟨rfl, hQ⟩
set_option maxRecDepth 100000 in
set_option maxHeartbeats 4000000 in
/-- Take's closure: a thread whose state was set already goes out of the heap. -/
theorem qtake1 (Q : Qx TK w0 w b g c hb n q) (hn : n ≤ 4096) (x : Nat) (B1 B2 : Nat) (hB1 : w.cell? ⟨B1, 0, none⟩ = some (.pointer (some ⟨b, 0, none⟩))) (hB2 : w.cell? ⟨B2, 0, none⟩ = some (.int .i64 x)) (hh : hasV q.h x) (hT1 : TK B1) (hT2 : TK B2) (rp : Value) :
    Calls Tryz.prog 62 #[rp, .pointer (some ⟨B1, 0, none⟩), .pointer (some ⟨B2, 0, none⟩)] w fun e w' => e = .returned (.tuple #[]) ∧ Qx TK w0 w' b g c hb n ⟨q.now, q.rows, outV q.h (placeV q.h x)⟩ := by
  have HRV : Hid (∀ W h2, Qx TK w0 W b g c hb n ⟨q.now, q.rows, h2⟩ → W.cell? ⟨b, 2, none⟩ = some (.pointer (some ⟨hb, 0, none⟩))) := by
    intro W h2 h
    exact h.box.2.2.cell
  have HPU := Lib.hid (fun W (h : Qx TK w0 W b g c hb n ⟨q.now, q.rows, q.h⟩) => h.remove hn x x rfl hh)
  have HQ := Lib.hid Q
  have HB1 := Lib.hid hB1
  have HB2 := Lib.hid hB2
  clear Q hh hB1 hB2
  go_enter Tryz.func62, Tryz.ntmps62
  go_wp2
  obtain ⟨G, hG⟩ : ∃ G : Option Value → World → Prop, ∀ a W, G a W = (∃ h2, Qx TK w0 W b g c hb n ⟨q.now, q.rows, h2⟩ ∧ W.cell? ⟨B1, 0, none⟩ = some (.pointer (some ⟨b, 0, none⟩)) ∧ W.cell? ⟨B2, 0, none⟩ = some (.int .i64 x) ∧ (a = none → h2 = q.h) ∧ (∀ u, a = some u → h2 = outV q.h (placeV q.h x))) := ⟨_, fun _ _ => rfl⟩
  obtain ⟨S_, hS_⟩ : ∃ S_ : World → World → Prop, S_ = (fun _ _ => True) := ⟨_, rfl⟩
  have hR_ : ∀ W, S_ W W := by intro W; rw [hS_]; exact trivial
  obtain ⟨T, hT⟩ : ∃ T : Nat → FactS S_, ∀ t_, T t_ = ([FactS.eq (.pointer (some ⟨b, 0, none⟩)), FactS.eq (.pointer (some ⟨b, 0, none⟩)), FactS.eq (.pointer (some ⟨b, 2, none⟩)), FactS.eq (.pointer (some ⟨hb, 0, none⟩)), FactS.eq (.int .i64 x), FactS.eq (.int .i64 0)] : List (FactS S_)).getD t_ FactS.any := ⟨_, fun _ => rfl⟩
  have hP_ : ∀ i_ v_ (y_ : Nat → Option Value) W_, ([5].contains i_) = false → G (y_ 5) W_ → G (updY y_ i_ v_ 5) W_ := by
    intro i_ v_ y_ W_ hi_ h_
    simp only [List.contains_cons, List.contains_nil, Bool.or_false, beq_eq_false_iff_ne, ne_eq] at hi_
    rw [updY_ne y_ i_ v_ hi_]
    exact h_
  refine region_tabJ [(0, 4), (1, 5), (2, 6), (3, 7), (4, 8), (5, 9)] S_ T (fun y_ W_ => G (y_ 5) W_) (by kernel_rfl) (by kernel_rfl) (by kernel_rfl) (by kernel_rfl) (by kernel_rfl) ?_ ?_ ?_
  · skip
    show G none _
    rw [hG]
    exact ⟨_, HQ.out.below (below_dr (Below.refl _ _) 1), HB1.out, HB2.out, fun _ => rfl, fun u h => by cases h⟩
  · skip
    refine stepsAll_cons (k := 0) ?_ ?_
    · intro fa fx fW fy hF hN hJ hE K fK
      have hJ : G (fy 5) fW := hJ
      have ev1 : fa.tmps[1]?.getD undef = .pointer (some ⟨B1, 0, none⟩) := hF.eo 1 (by kernel_rfl)
      have hJ2 := hJ
      rw [hG] at hJ2
      obtain ⟨_, _, k0, _⟩ := hJ2
      refine wpOp_val rfl (wanted_none rfl) ?_ (fK (.pointer (some ⟨b, 0, none⟩)) fW (hR_ fW) (by rw [hT]; exact rfl) (hP_ 0 _ fy fW rfl hJ))
      clear fK hE hF hJ hN
      go_simp
    refine stepsAll_cons (k := 1) ?_ ?_
    · intro fa fx fW fy hF hN hJ hE K fK
      have hJ : G (fy 5) fW := hJ
      have q0 : fx 0 = .pointer (some ⟨b, 0, none⟩) := by have q := (hE ⟨0, .data⟩ (by simp) rfl).2; rw [hT] at q; exact q
      have ev4 : fa.tmps[4]?.getD undef = .pointer (some ⟨b, 0, none⟩) := (hF.ev 0 4 (by kernel_rfl)).trans q0
      refine wpOp_val rfl (wanted_none rfl) ?_ (fK (.pointer (some ⟨b, 0, none⟩)) fW (hR_ fW) (by rw [hT]; exact rfl) (hP_ 1 _ fy fW rfl hJ))
      clear fK hE hF hJ hN
      go_simp
    refine stepsAll_cons (k := 2) ?_ ?_
    · intro fa fx fW fy hF hN hJ hE K fK
      have hJ : G (fy 5) fW := hJ
      have q1 : fx 1 = .pointer (some ⟨b, 0, none⟩) := by have q := (hE ⟨1, .data⟩ (by simp) rfl).2; rw [hT] at q; exact q
      have ev5 : fa.tmps[5]?.getD undef = .pointer (some ⟨b, 0, none⟩) := (hF.ev 1 5 (by kernel_rfl)).trans q1
      refine wpOp_val rfl (wanted_none rfl) ?_ (fK (.pointer (some ⟨b, 2, none⟩)) fW (hR_ fW) (by rw [hT]; exact rfl) (hP_ 2 _ fy fW rfl hJ))
      clear fK hE hF hJ hN
      go_simp
    refine stepsAll_cons (k := 3) ?_ ?_
    · intro fa fx fW fy hF hN hJ hE K fK
      have hJ : G (fy 5) fW := hJ
      have q2 : fx 2 = .pointer (some ⟨b, 2, none⟩) := by have q := (hE ⟨2, .data⟩ (by simp) rfl).2; rw [hT] at q; exact q
      have ev6 : fa.tmps[6]?.getD undef = .pointer (some ⟨b, 2, none⟩) := (hF.ev 2 6 (by kernel_rfl)).trans q2
      have hJ2 := hJ
      rw [hG] at hJ2
      obtain ⟨h2, j1, _⟩ := hJ2
      have k0 := HRV.out _ _ j1
      refine wpOp_val rfl (wanted_none rfl) ?_ (fK (.pointer (some ⟨hb, 0, none⟩)) fW (hR_ fW) (by rw [hT]; exact rfl) (hP_ 3 _ fy fW rfl hJ))
      clear fK hE hF hJ hN
      go_simp
    refine stepsAll_cons (k := 4) ?_ ?_
    · intro fa fx fW fy hF hN hJ hE K fK
      have hJ : G (fy 5) fW := hJ
      have ev2 : fa.tmps[2]?.getD undef = .pointer (some ⟨B2, 0, none⟩) := hF.eo 2 (by kernel_rfl)
      have hJ2 := hJ
      rw [hG] at hJ2
      obtain ⟨_, _, _, k0, _⟩ := hJ2
      refine wpOp_val rfl (wanted_none rfl) ?_ (fK (.int .i64 x) fW (hR_ fW) (by rw [hT]; exact rfl) (hP_ 4 _ fy fW rfl hJ))
      clear fK hE hF hJ hN
      go_simp
    refine stepsAll_cons (k := 5) ?_ ?_
    · intro fa fx fW fy hF hN hJ hE K fK
      have hJ : G (fy 5) fW := hJ
      have q3 : fx 3 = .pointer (some ⟨hb, 0, none⟩) := by have q := (hE ⟨3, .data⟩ (by simp) rfl).2; rw [hT] at q; exact q
      have q4 : fx 4 = .int .i64 x := by have q := (hE ⟨4, .data⟩ (by simp) rfl).2; rw [hT] at q; exact q
      have ev7 : fa.tmps[7]?.getD undef = .pointer (some ⟨hb, 0, none⟩) := (hF.ev 3 7 (by kernel_rfl)).trans q3
      have ev8 : fa.tmps[8]?.getD undef = .int .i64 x := (hF.ev 4 8 (by kernel_rfl)).trans q4
      refine wpOp_call rfl (wanted_none rfl) (by go_simp; exact ⟨rfl, rfl⟩) ?_
      have hJ2 := hJ
      rw [hG, hN] at hJ2
      obtain ⟨h2, j1, c1, c2, j2, _⟩ := hJ2
      obtain rfl := j2 rfl
      refine (HPU.out _ j1).mono ?_
      rintro e' w' ⟨rfl, hQ, hfr⟩
      have b1 : S_ fW w' := by rw [hS_]; trivial
      have c3 : w'.cell? ⟨B1, 0, none⟩ = some (.pointer (some ⟨b, 0, none⟩)) := by
        rw [← c1]
        unfold World.cell?
        rw [hfr _ hT1]
      have c4 : w'.cell? ⟨B2, 0, none⟩ = some (.int .i64 x) := by
        rw [← c2]
        unfold World.cell?
        rw [hfr _ hT2]
      have j3 : G (some (.int .i64 0)) w' := by rw [hG]; exact ⟨_, hQ, c3, c4, (fun e => by cases e), fun _ _ => rfl⟩
      exact ⟨_, rfl, fK (.int .i64 0) (w') (b1) (by rw [hT]; exact rfl) (j3)⟩
    exact stepsAll_nil
  intro fa fx fW fy hF hJ0 hx
  have y5 : fy 5 = some (fx 5) := (hx 5 (by decide)).1
  have hJ : G (fy 5) fW := hJ0
  clear hJ0
  rw [y5] at hJ
  have q5 : fx 5 = .int .i64 0 := by have q := (hx 5 (by decide)).2; rw [hT] at q; exact q
  have ev9 : fa.tmps[9]?.getD undef = .int .i64 0 := (hF.ev 5 9 (by kernel_rfl)).trans q5
  rw [hF.eq]
  clear hF hx hT T hP_ hR_ y5
  simp only [putAll, Act.put, List.setIfInBounds_toArray, List.set_cons_zero, List.set_cons_succ, q5]
  rw [hG] at hJ
  obtain ⟨h2, j1, _, _, _, j2⟩ := hJ
  obtain rfl := j2 _ rfl
  clear hG
  go_wp2
  exact bodyPost_end (v := .tuple #[]) (by simp [results, Tryz.results62, go_sem]) rfl ⟨rfl, j1⟩
set_option maxRecDepth 100000 in
set_option maxHeartbeats 4000000 in
theorem qtakeK {k : Nat} (Q : Qx TK w0 w b g c hb n q) (I : QI n q k) (hn : n ≤ 4096) (z : Int) :
    Calls Tryz.prog 27 #[.pointer (some ⟨b, 0, none⟩), .int .i64 z] w (QP w0 b g c hb n (takeS n q z)) := by
  obtain ⟨W1, hW1⟩ : ∃ W1, W1 = (w.alloc (.cells #[.pointer (some ⟨b, 0, none⟩)] (24 : Nat))).alloc (.cells #[.int .i64 z] (3 : Nat)) := ⟨_, rfl⟩
  have hbl : Below w.heap.size w W1 := by rw [hW1]; exact below_al (below_al (Below.refl _ _) _) _
  have c1 : W1.cell? ⟨w.heap.size, 0, none⟩ = some (.pointer (some ⟨b, 0, none⟩)) := by rw [hW1]; go_simp
  have c2 : W1.cell? ⟨w.heap.size + 1, 0, none⟩ = some (.int .i64 z) := by rw [hW1]; go_simp
  have hsz : W1.heap.size = w.heap.size + 2 := by rw [hW1]; simp
  have HT : Hid (Calls Tryz.prog 61 #[.pointer (some ⟨b, 0, none⟩), .int .i64 z, .int .i64 1, .int .i64 2, .func (.func 62) #[] #[.pointer (some ⟨w.heap.size, 0, none⟩), .pointer (some ⟨w.heap.size + 1, 0, none⟩)]] W1 (QP w0 b g c hb n (takeS n q z))) := by
    by_cases hi : inZ n z
    · obtain ⟨x, hz, hx, hzx⟩ := inZ_nat hi
      by_cases hst : (q.rows.getD x row0).st = 1
      · have hgl : g < w.heap.size := by
          obtain ⟨⟨gk, gp, ck, cp, iv, Q1, QT⟩, Q2⟩ := Q
          exact (Q1.ro.lt g rfl).2
        have Q1 := Q.mark (fun k => k = w.heap.size ∨ k = w.heap.size + 1) W1 hbl (fun k e => by omega)
        have Q2 := Q1.setRow hx 0 (by decide) (.int .i64 2) ⟨2, (q.rows.getD x row0).tk, (q.rows.getD x row0).ps, (q.rows.getD x row0).pk⟩ rfl
        have cc : Chg (fun k => k = g) W1 (W1.setCell ⟨g, x * 4 + 0, none⟩ (.int .i64 2)) := (Chg.refl _ _).setCell _ _ _ rfl
        have d1 := cc.cell c1 (show ¬ (w.heap.size = g) by omega)
        have d2 := cc.cell c2 (show ¬ (w.heap.size + 1 = g) by omega)
        rw [hz] at d2
        have eg : ∀ args w, (callFunc 62 args).run Tryz.prog w = .ok (.enter 62 args) w := Go.Proofs.enters_of Tryz.func62 (by kernel_rfl) rfl
        have hh : hasV q.h x := (I.has x hx).2 hst
        have HD := qtake1 Q2 hn x w.heap.size (w.heap.size + 1) d1 d2 hh (.inl rfl) (.inr rfl) (.pointer (some ⟨g, x * 4, none⟩))
        refine (qturn Q1 x z hz hx 1 2 hst 62 #[.pointer (some ⟨w.heap.size, 0, none⟩), .pointer (some ⟨w.heap.size + 1, 0, none⟩)] eg (fun w' => Qx NoT w0 w' b g c hb n (takeR q x)) (HD.mono (fun e w' ⟨h1, h2⟩ => ⟨h1, h2.free⟩))).mono ?_
        rintro e w' ⟨he, h1⟩
        have es : takeS n q z = (0, takeR q x) := by unfold takeS rowZ; rw [hzx, if_neg (by simpa using hi), if_neg (by simpa using hst)]
        rw [es]
        exact ⟨he, Lib.hid h1⟩
      · refine (qturnNo (Q.below hbl) x z hz hx 1 2 hst _).mono ?_
        rintro e w' ⟨he, rfl⟩
        exact qp_same Q (by unfold takeS rowZ; rw [hzx, if_neg (by simpa using hi), if_pos hst]) he hbl
    · refine (qturnOut (Q.below hbl) z (inZ_out hi) 1 2 _).mono ?_
      rintro e w' ⟨he, rfl⟩
      exact qp_same Q (by unfold takeS; rw [if_pos hi]) he hbl
  unfold QP at HT ⊢
  generalize takeS n q z = s at HT ⊢
  rw [hW1] at HT c1 c2
  clear Q I hbl hsz hW1
  go_enter Tryz.func27, Tryz.ntmps27
  go_wp2_with (go_at_call 61; (with_reducible refine HT.out.mono ?_); rintro e w2 ⟨rfl, hQ⟩)
  go_ret
  exact ⟨rfl, hQ⟩
end Go.Proofs.YtabdipfpfbdghaaGreat
