/- What goes out of a heap that was made; Change, Remove, Least, Pop, Key. -/
import Derived.Test.YtabdipfpfbdghaaGreatZHeap
import Derived.Lib.Mul64
import Derived.Laws.Bits64b
import Derived.Shelf.Bits.Mul64
import Derived.Laws.CopyRow
namespace Go.Proofs.YtabdipfpfbdghaaGreat
open Go.RowKit
theorem out_world {W : World} {b gi gp gk ck base n ci cp : Nat} {s : HSt} {ks : List Int} (h : Sw W b gi gp base n ci cp s) (hk : Kw W b gk base n ck ks) (n5 : gp ≠ gk) (n6 : gk ≠ b) (last x : Nat) (hl : last ≤ s.1.length) (hx : x < n) :
    Kw ((W.setCell ⟨b, 0, none⟩ (.slice (some ⟨gi, 0, none⟩) last ci)).setCell ⟨gp, x, none⟩ (.int .i64 (-1))) b gk base n ck ks ∧ Sw ((W.setCell ⟨b, 0, none⟩ (.slice (some ⟨gi, 0, none⟩) last ci)).setCell ⟨gp, x, none⟩ (.int .i64 (-1))) b gi gp base n ci cp (s.1.take last, s.2.set x (-1)) ∧ Chg (fun k => k = b ∨ k = gp) W ((W.setCell ⟨b, 0, none⟩ (.slice (some ⟨gi, 0, none⟩) last ci)).setCell ⟨gp, x, none⟩ (.int .i64 (-1))) := by
  have n1 := h.n1
  have n2 := h.n2
  have n3 := h.n3
  obtain ⟨W2, hW2⟩ : ∃ W2, W2 = W.setCell ⟨b, 0, none⟩ (.slice (some ⟨gi, 0, none⟩) last ci) := ⟨_, rfl⟩
  have c1 : Chg (fun k => k = b) W W2 := by rw [hW2]; exact (Chg.refl _ _).setCell _ _ _ rfl
  have i2 : Box W2 b 0 (.slice (some ⟨gi, 0, none⟩) last ci) := by rw [hW2]; exact h.ib.set _
  have p2 : Box W2 b 2 (.slice (some ⟨gp, 0, none⟩) n cp) := by rw [hW2]; exact h.pb.set_other _ (by decide)
  have io2 := own_take (c1.own h.io (fun k e e2 => by cases e; exact n1 e2)) last hl
  have po2 := c1.own h.po (fun k e e2 => by cases e; exact n2 e2)
  have hk2 : Kw W2 b gk base n ck ks := ⟨by rw [hW2]; exact hk.kb.set_other _ (by decide), c1.own hk.ko (fun k e e2 => by cases e; exact n6 e2)⟩
  rw [← hW2]
  obtain ⟨W3, hW3⟩ : ∃ W3, W3 = W2.setCell ⟨gp, x, none⟩ (.int .i64 (-1)) := ⟨_, rfl⟩
  have c2 : Chg (fun k => k = gp) W2 W3 := by rw [hW3]; exact (Chg.refl _ _).setCell _ _ _ rfl
  have po3 := (rowGet po2 hx).2.2 (-1)
  rw [← hW3] at po3 ⊢
  have hll : (s.1.take last).length = last := by rw [List.length_take]; omega
  have i3 := i2.keep c2 (fun e => n2 e.symm)
  have p3 := p2.keep c2 (fun e => n2 e.symm)
  have io3 := c2.own io2 (fun k e e2 => by cases e; exact n3 e2)
  rw [show (nums .i64 (zs s.1)).take (last * 1) = nums .i64 (zs (s.1.take last)) by simp [nums, zs, List.map_take]] at io3
  refine ⟨hk2.keep c2 (fun e => n2 e.symm) (fun e => n5 e.symm), ⟨?_, p3, ?_, po3, n1, n2, n3⟩, (c1.mono (fun _ _ e => .inl e)).trans (c2.mono (fun _ _ e => .inr e))⟩
  · show Box W3 b 0 (.slice _ (s.1.take last).length ci)
    rw [hll]; exact i3
  · show W3.ownsRow base _ 1 (.slice _ (s.1.take last).length ci) (s.1.take last).length _
    rw [hll]; exact io3
set_option maxRecDepth 100000 in
set_option maxHeartbeats 8000000 in
/-- out. -/
theorem hout {w : World} {b gk gp base n ck cp : Nat} {iv : Value} {h : HV} (H : Hp w b gk gp base n ck cp iv h) (s : Sd n h) (hn : n ≤ 4096) (i : Nat) (z : Int) (hz : z = (i : Int)) (hi : i < h.ids.length) :
    Calls Tryz.prog 77 #[.pointer (some ⟨b, 0, none⟩), .int .i64 z] w fun e w' => e = .returned (.tuple #[]) ∧ Acts w w' b gk gp base n ck cp iv (outV h i) := by
  subst hz
  obtain ⟨gi, ci, rfl, HS, n4, hci⟩ := H.sw (by omega)
  have n5 := H.n5
  have n6 := H.n6
  have n1 := HS.n1
  have n2 := HS.n2
  have n3 := HS.n3
  have hlen : h.ids.length ≤ n := by
    exact ids_le s
  obtain ⟨last, hla⟩ : ∃ last, h.ids.length = last + 1 := ⟨h.ids.length - 1, by omega⟩
  have hid0 := getD_getH h.ids i hi
  obtain ⟨id, hidd⟩ : ∃ id, h.ids.getD i 0 = id := ⟨_, rfl⟩
  rw [hidd] at hid0
  have hidn := (s.bij.r i id hid0).1
  obtain ⟨g1, _, _⟩ := rowGet HS.io hi
  rw [zs_getD _ _ hi] at g1
  simp only [hidd] at g1
  have k1 := HS.ib.cell
  simp only [hla] at k1
  have HK := H.kw
  have fin : ∀ (W3 : World) (s3 : HSt), outV h i = ⟨s3.1, h.ks, s3.2⟩ → Sw W3 b gi gp base n ci cp s3 → Kw W3 b gk base n ck h.ks → Chg (fun k => k = b ∨ k = gi ∨ k = gp) w W3 → Acts w W3 b gk gp base n ck cp (.slice (some ⟨gi, 0, none⟩) (last + 1) ci) (outV h i) := by
    intro W3 s3 e1 t1 t2 t3
    refine ⟨⟨.slice (some ⟨gi, 0, none⟩) s3.1.length ci, by rw [e1]; exact Hp.of_sw t1 t2 n4 n5 n6, .inl rfl⟩, t3.mono (fun k _ e => ?_)⟩
    rcases e with e | e | e
    · exact .inl e
    · exact .inr (.inr (.inr (by rw [e]; rfl)))
    · exact .inr (.inr (.inl e))
  rw [hla] at hi hci hlen ⊢
  have hl40 : last < 4096 := by omega
  by_cases hc : i < last
  · have hll : last < h.ids.length := by omega
    obtain ⟨g2, _, _⟩ := rowGet HS.io hll
    rw [zs_getD _ _ hll] at g2
    have hx0 := getD_getH h.ids last hll
    obtain ⟨x, hx⟩ : ∃ x, h.ids.getD last 0 = x := ⟨_, rfl⟩
    rw [hx] at hx0
    simp only [hx] at g2
    have hxn := (s.bij.r last x hx0).1
    have HSE := Lib.hid (hset b gi gp base n ci cp (h.ids, h.pl) i x i w rfl HS (by show i < h.ids.length; omega) hxn)
    have HFX := Lib.hid (out_fix s i id hid0 (by omega))
    have HR : Hid (∀ W1, Sw W1 b gi gp base n ci cp (hputV (h.ids, h.pl) i x) → Chg (fun k => k = gi ∨ k = gp) w W1 →
        W1.cell? ⟨b, 0, none⟩ = some (.slice (some ⟨gi, 0, none⟩) (last + 1) ci) ∧ W1.frozen? ⟨b, 0, none⟩ = false ∧ W1.cell? ⟨b, 2, none⟩ = some (.slice (some ⟨gp, 0, none⟩) n cp) ∧ (∃ u, W1.cell? ⟨gp, id, none⟩ = some u) ∧ W1.frozen? ⟨gp, id, none⟩ = false ∧
        Calls Tryz.prog 96 #[.pointer (some ⟨b, 0, none⟩), .int .i64 i] ((W1.setCell ⟨b, 0, none⟩ (.slice (some ⟨gi, 0, none⟩) last ci)).setCell ⟨gp, id, none⟩ (.int .i64 (-1))) fun e w' => e = .returned (.tuple #[]) ∧ Acts w w' b gk gp base n ck cp (.slice (some ⟨gi, 0, none⟩) (last + 1) ci) (outV h i)) := by
      intro W1 hs1 hc1
      have hl1 : (hputV (h.ids, h.pl) i x).1.length = last + 1 := by show (h.ids.set i x).length = _; rw [List.length_set]; exact hla
      have a1 := hs1.ib.cell
      simp only [hl1] at a1
      obtain ⟨q1, q2, _⟩ := rowGet hs1.po hidn
      obtain ⟨hk2, t1, t2⟩ := out_world hs1 (HK.keep hc1 (by omega) (by omega)) n5 n6 last id (by rw [hl1]; omega) hidn
      refine ⟨a1, hs1.ib.free, hs1.pb.cell, ⟨_, q1⟩, q2, ?_⟩
      have hll1 : ((hputV (h.ids, h.pl) i x).1.take last).length = last := by rw [List.length_take, hl1]; omega
      have hfx := HFX.out
      simp only [hla, Nat.add_sub_cancel, hx] at hfx
      refine (hfix b gi gk gp base n ci ck cp h.ks _ i i _ rfl t1 hk2 n4 n5 n6 (by rw [hll1]; exact hc) hfx.1 hfx.2 (by rw [hll1]; omega)).mono ?_
      rintro e w' ⟨rfl, u1, u2⟩
      refine ⟨rfl, fin _ _ ?_ u1 (hk2.keep u2 (by omega) (by omega)) (((hc1.mono (fun _ _ e => .inr e)).trans (t2.mono (fun _ _ e => e.imp_right .inr))).trans (u2.mono (fun _ _ e => .inr e)))⟩
      unfold outV
      simp only [hla, Nat.add_sub_cancel, hx, hidd, if_pos hc]
      rfl
    clear fin HS H HK s HFX hla hlen hid0 hidd hx0 hx hll
    go_enter Tryz.func77, Tryz.ntmps77
    go_wp2_with (first
      | (go_at_call 95; (with_reducible refine HSE.out.mono ?_); rintro e w1 ⟨rfl, hs1, hc1⟩; obtain ⟨k2, k3, k4, ⟨u, k5⟩, k6, HX⟩ := HR.out _ hs1 hc1)
      | (go_at_call 96; (with_reducible refine HX.mono ?_); rintro e w2 ⟨rfl, hA⟩))
    exact bodyPost_end (v := .tuple #[]) (by simp [results, Tryz.results77, go_sem]) rfl ⟨rfl, hA⟩
  · obtain rfl : last = i := by omega
    obtain ⟨q1, q2, _⟩ := rowGet HS.po hidn
    obtain ⟨hk2, t1, t2⟩ := out_world HS HK n5 n6 last id (by show last ≤ h.ids.length; omega) hidn
    have k2 := HS.ib.free
    have k3 := HS.pb.cell
    have hA := fin _ (h.ids.take last, h.pl.set id (-1)) (by
      unfold outV
      simp only [hla, Nat.add_sub_cancel, hidd, if_neg hc]) t1 hk2 (t2.mono (fun _ _ e => e.imp_right .inr))
    have HA := Lib.hid hA
    clear hA fin HS H HK s hla hlen hid0 hidd t1 t2 hk2
    go_enter Tryz.func77, Tryz.ntmps77
    go_wp2
    exact bodyPost_end (v := .tuple #[]) (by simp [results, Tryz.results77, go_sem]) rfl ⟨rfl, HA.out⟩
/-- Remove, of one that is there. -/
def placeV (h : HV) (x : Nat) : Nat := (h.pl.getD x 0).toNat
theorem find_ok {n : Nat} {h : HV} (s : Sd n h) (x : Nat) (hh : hasV h x) (o : Int) : findV n h.pl x true o = 0 := by
  obtain ⟨i, _, _, hp, _⟩ := place_of s hh
  have hx := has_lt s hh
  unfold findV
  rw [if_neg (by omega), Int.toNat_natCast, hp, if_neg]
  have : ((i : Int) != -1) = true := by simp
  simp [this]
theorem find_no {n : Nat} {h : HV} (s : Sd n h) (x : Nat) (hx : x < n) (hh : ¬ hasV h x) (o : Int) : findV n h.pl x true o = o := by
  have h1 := has_iff s x hx
  have h2 : h.pl[x]? = some (-1) := Classical.not_not.1 (fun e => hh (h1.2 e))
  unfold findV
  rw [if_neg (by omega), Int.toNat_natCast, List.getD_eq_getElem?_getD, h2]
  rfl
theorem find_out {n : Nat} {h : HV} (z : Int) (hz : z < 0 ∨ (n : Int) ≤ z) (t : Bool) (o : Int) : findV n h.pl z t o = 8 := by
  unfold findV
  rw [if_pos hz]
theorem find_free {n : Nat} {h : HV} (s : Sd n h) (x : Nat) (hx : x < n) (hh : ¬ hasV h x) (o : Int) : findV n h.pl x false o = 0 := by
  have h1 := has_iff s x hx
  have h2 : h.pl[x]? = some (-1) := Classical.not_not.1 (fun e => hh (h1.2 e))
  unfold findV
  rw [if_neg (by omega), Int.toNat_natCast, List.getD_eq_getElem?_getD, h2]
  rfl
theorem find_taken {n : Nat} {h : HV} (s : Sd n h) (x : Nat) (hh : hasV h x) (o : Int) : findV n h.pl x false o = o := by
  obtain ⟨i, _, _, hp, _⟩ := place_of s hh
  have hx := has_lt s hh
  unfold findV
  rw [if_neg (by omega), Int.toNat_natCast, hp, if_pos]
  have : ((i : Int) != -1) = true := by simp
  simp [this]
set_option maxRecDepth 100000 in
set_option maxHeartbeats 4000000 in
theorem hremoveOk {w : World} {b gk gp base n ck cp : Nat} {iv : Value} {h : HV} (H : Hp w b gk gp base n ck cp iv h) (s : Sd n h) (hn : n ≤ 4096) (x : Nat) (hh : hasV h x) :
    Calls Tryz.prog 63 #[.pointer (some ⟨b, 0, none⟩), .int .i64 x] w fun e w' => e = .returned (.int .i64 0) ∧ Acts w w' b gk gp base n ck cp iv (outV h (placeV h x)) := by
  have hx := has_lt s hh
  have HF := Lib.hid (hfind H (by omega) x true 4)
  rw [find_ok s x hh] at HF
  obtain ⟨i, hi, _, hp, hil⟩ := place_of s hh
  have e1 : placeV h x = i := by unfold placeV; rw [hp]; rfl
  rw [e1]
  have HO := Lib.hid (hout H s hn i i rfl hil)
  have k1 := H.pb.cell
  obtain ⟨g1, _, _⟩ := rowGet H.po hx
  rw [hp] at g1
  clear H s hp e1 hil hi
  go_enter Tryz.func63, Tryz.ntmps63
  go_wp2_with (first
    | (go_at_call 73; (with_reducible refine HF.out.mono ?_); rintro e w1 ⟨rfl, rfl⟩)
    | (go_at_call 77; (with_reducible refine HO.out.mono ?_); rintro e w4 ⟨rfl, hA⟩))
  go_ret
  exact ⟨rfl, hA⟩
set_option maxHeartbeats 4000000 in
theorem hremoveNo {w : World} {b gk gp base n ck cp : Nat} {iv : Value} {h : HV} (H : Hp w b gk gp base n ck cp iv h) (hn : 0 < n) (id : Int) (hv : findV n h.pl id true 4 ≠ 0) :
    Calls Tryz.prog 63 #[.pointer (some ⟨b, 0, none⟩), .int .i64 id] w fun e w' => e = .returned (.int .i64 (findV n h.pl id true 4)) ∧ w = w' := by
  have HF := Lib.hid (hfind H hn id true 4)
  generalize findV n h.pl id true 4 = v at HF hv ⊢
  clear H
  go_enter Tryz.func63, Tryz.ntmps63
  go_wp2_with (go_at_call 73; (with_reducible refine HF.out.mono ?_); rintro e w1 ⟨rfl, rfl⟩)
  go_ret
  exact ⟨rfl, rfl⟩
theorem change_fix {n : Nat} {h : HV} (s : Sd n h) (id : Nat) (key : Int) (i : Nat) (hi : h.ids[i]? = some id) : FixI (h.ks.set id key) h.ids i :=
  fix_of_ord s.ord (fun _ _ hj hx => ks_set _ _ _ _ (fun e => hj (s.bij.inj (e ▸ hx) hi))) (get_lt hi)
set_option maxHeartbeats 4000000 in
theorem hleastNo {w : World} {b gk gp base n ck cp : Nat} {iv : Value} {h : HV} (H : Hp w b gk gp base n ck cp iv h) (hn : 0 < n) (h0 : h.ids.length = 0) :
    Calls Tryz.prog 76 #[.pointer (some ⟨b, 0, none⟩)] w fun e w' => e = .returned (.tuple #[.int .i64 0, .int .i64 0, .bool false]) ∧ w = w' := by
  have HL := Lib.hid (hlen H hn)
  rw [h0] at HL
  clear H
  go_enter Tryz.func76, Tryz.ntmps76
  go_wp2_with (go_at_call 50; (with_reducible refine HL.out.mono ?_); rintro e w1 ⟨rfl, rfl⟩)
  go_ret3
  exact ⟨rfl, rfl⟩
set_option maxRecDepth 100000 in
set_option maxHeartbeats 4000000 in
theorem hleastOk {w : World} {b gk gp base n ck cp : Nat} {iv : Value} {h : HV} (H : Hp w b gk gp base n ck cp iv h) (s : Sd n h) (x : Nat) (hx : h.ids[0]? = some x) :
    Calls Tryz.prog 76 #[.pointer (some ⟨b, 0, none⟩)] w fun e w' => e = .returned (.tuple #[.int .i64 x, .int .i64 (h.ks.getD x 0), .bool true]) ∧ Below w.heap.size w w' := by
  have h0 := get_lt hx
  have hxn := (s.bij.r 0 x hx).1
  have HL := Lib.hid (hlen H (by omega))
  obtain ⟨gi, ci, rfl, HS, n4, hci⟩ := H.sw (by omega)
  obtain ⟨g1, _, _⟩ := rowGet HS.io h0
  rw [zs_getD _ _ h0] at g1
  simp only [get_getD hx] at g1
  obtain ⟨q1, _, _⟩ := rowGet H.kw.ko hxn
  have HB := Lib.hid HS.ib
  have HK := Lib.hid H.kw.kb
  have HG := Lib.hid g1
  have HQ := Lib.hid q1
  generalize h.ks.getD x 0 = key at HQ ⊢
  obtain ⟨len, hln⟩ : ∃ len, h.ids.length = len := ⟨_, rfl⟩
  simp only [hln] at HB HL h0
  have hz : ¬ ((len : Int) = 0) := by omega
  have hle := ids_le s
  rw [hln] at hle hci
  clear H HS g1 q1 s hln
  go_enter Tryz.func76, Tryz.ntmps76
  go_wp2_with (go_at_call 50; (with_reducible refine HL.out.mono ?_); rintro e w1 ⟨rfl, rfl⟩)
  obtain ⟨T, hT⟩ : ∃ T : Nat → Fact, ∀ t_, T t_ = ([Fact.eq (.pointer (some ⟨b, 0, none⟩)), Fact.eq (.pointer (some ⟨b, 0, none⟩)), Fact.eq (.pointer (some ⟨b, 0, none⟩)), Fact.eq (.slice (some ⟨gi, 0, none⟩) len ci), Fact.eq (.pointer (some ⟨gi, 0, none⟩)), Fact.eq (.int .i64 x), Fact.eq (.pointer (some ⟨b, 0, none⟩)), Fact.eq (.pointer (some ⟨b, 0, none⟩)), Fact.eq (.pointer (some ⟨b, 1, none⟩)), Fact.eq (.slice (some ⟨gk, 0, none⟩) n ck), Fact.eq (.pointer (some ⟨b, 0, none⟩)), Fact.eq (.pointer (some ⟨b, 0, none⟩)), Fact.eq (.pointer (some ⟨b, 0, none⟩)), Fact.eq (.slice (some ⟨gi, 0, none⟩) len ci), Fact.eq (.pointer (some ⟨gi, 0, none⟩)), Fact.eq (.int .i64 x), Fact.eq (.pointer (some ⟨gk, x, none⟩)), Fact.eq (.int .i64 key), Fact.eq (.int .i64 x), Fact.eq (.int .i64 key), Fact.eq (.bool true)] : List (Fact)).getD t_ Fact.any := ⟨_, fun _ => rfl⟩
  refine region_tab [(0, 8), (1, 9), (2, 10), (3, 11), (4, 12), (5, 13), (6, 14), (7, 15), (8, 16), (9, 17), (10, 18), (11, 19), (12, 20), (13, 21), (14, 22), (15, 23), (16, 24), (17, 25), (18, 2), (19, 3), (20, 4)] T (by kernel_rfl) (by kernel_rfl) (by kernel_rfl) (by kernel_rfl) (by kernel_rfl) ?_ ?_
  · skip
    refine stepsAll_cons (k := 0) ?_ ?_
    · intro fa fx fW hF fB hE K fK
      have ev0 : fa.tmps[0]?.getD undef = .pointer (some ⟨b, 0, none⟩) := hF.eo 0 (by kernel_rfl)
      refine wpOp_val rfl (wanted_none rfl) ?_ (fK (.pointer (some ⟨b, 0, none⟩)) fW (Below.refl _ _) (by rw [hT]; exact rfl))
      clear fK hE hF
      go_simp
    refine stepsAll_cons (k := 1) ?_ ?_
    · intro fa fx fW hF fB hE K fK
      have q0 : fx 0 = .pointer (some ⟨b, 0, none⟩) := by have q := hE ⟨0, .data⟩ (by simp) rfl; rw [hT] at q; exact q
      have ev8 : fa.tmps[8]?.getD undef = .pointer (some ⟨b, 0, none⟩) := (hF.ev 0 8 (by kernel_rfl)).trans q0
      refine wpOp_val rfl (wanted_none rfl) ?_ (fK (.pointer (some ⟨b, 0, none⟩)) fW (Below.refl _ _) (by rw [hT]; exact rfl))
      clear fK hE hF
      go_simp
    refine stepsAll_cons (k := 2) ?_ ?_
    · intro fa fx fW hF fB hE K fK
      have q1 : fx 1 = .pointer (some ⟨b, 0, none⟩) := by have q := hE ⟨1, .data⟩ (by simp) rfl; rw [hT] at q; exact q
      have ev9 : fa.tmps[9]?.getD undef = .pointer (some ⟨b, 0, none⟩) := (hF.ev 1 9 (by kernel_rfl)).trans q1
      refine wpOp_val rfl (wanted_none rfl) ?_ (fK (.pointer (some ⟨b, 0, none⟩)) fW (Below.refl _ _) (by rw [hT]; exact rfl))
      clear fK hE hF
      go_simp
    refine stepsAll_cons (k := 3) ?_ ?_
    · intro fa fx fW hF fB hE K fK
      have q2 : fx 2 = .pointer (some ⟨b, 0, none⟩) := by have q := hE ⟨2, .data⟩ (by simp) rfl; rw [hT] at q; exact q
      have ev10 : fa.tmps[10]?.getD undef = .pointer (some ⟨b, 0, none⟩) := (hF.ev 2 10 (by kernel_rfl)).trans q2
      have k0 := (HB.out.below fB).cell
      refine wpOp_val rfl (wanted_none rfl) ?_ (fK (.slice (some ⟨gi, 0, none⟩) len ci) fW (Below.refl _ _) (by rw [hT]; exact rfl))
      clear fK hE hF
      go_simp
    refine stepsAll_cons (k := 4) ?_ ?_
    · intro fa fx fW hF fB hE K fK
      have q3 : fx 3 = .slice (some ⟨gi, 0, none⟩) len ci := by have q := hE ⟨3, .data⟩ (by simp) rfl; rw [hT] at q; exact q
      have ev11 : fa.tmps[11]?.getD undef = .slice (some ⟨gi, 0, none⟩) len ci := (hF.ev 3 11 (by kernel_rfl)).trans q3
      refine wpOp_val rfl (wanted_none rfl) ?_ (fK (.pointer (some ⟨gi, 0, none⟩)) fW (Below.refl _ _) (by rw [hT]; exact rfl))
      clear fK hE hF
      go_simp
    refine stepsAll_cons (k := 5) ?_ ?_
    · intro fa fx fW hF fB hE K fK
      have q4 : fx 4 = .pointer (some ⟨gi, 0, none⟩) := by have q := hE ⟨4, .data⟩ (by simp) rfl; rw [hT] at q; exact q
      have ev12 : fa.tmps[12]?.getD undef = .pointer (some ⟨gi, 0, none⟩) := (hF.ev 4 12 (by kernel_rfl)).trans q4
      have k0 := cell_below fB HG.out
      refine wpOp_val rfl (wanted_none rfl) ?_ (fK (.int .i64 x) fW (Below.refl _ _) (by rw [hT]; exact rfl))
      clear fK hE hF
      go_simp
    refine stepsAll_cons (k := 6) ?_ ?_
    · intro fa fx fW hF fB hE K fK
      have ev0 : fa.tmps[0]?.getD undef = .pointer (some ⟨b, 0, none⟩) := hF.eo 0 (by kernel_rfl)
      refine wpOp_val rfl (wanted_none rfl) ?_ (fK (.pointer (some ⟨b, 0, none⟩)) fW (Below.refl _ _) (by rw [hT]; exact rfl))
      clear fK hE hF
      go_simp
    refine stepsAll_cons (k := 7) ?_ ?_
    · intro fa fx fW hF fB hE K fK
      have q6 : fx 6 = .pointer (some ⟨b, 0, none⟩) := by have q := hE ⟨6, .data⟩ (by simp) rfl; rw [hT] at q; exact q
      have ev14 : fa.tmps[14]?.getD undef = .pointer (some ⟨b, 0, none⟩) := (hF.ev 6 14 (by kernel_rfl)).trans q6
      refine wpOp_val rfl (wanted_none rfl) ?_ (fK (.pointer (some ⟨b, 0, none⟩)) fW (Below.refl _ _) (by rw [hT]; exact rfl))
      clear fK hE hF
      go_simp
    refine stepsAll_cons (k := 8) ?_ ?_
    · intro fa fx fW hF fB hE K fK
      have q7 : fx 7 = .pointer (some ⟨b, 0, none⟩) := by have q := hE ⟨7, .data⟩ (by simp) rfl; rw [hT] at q; exact q
      have ev15 : fa.tmps[15]?.getD undef = .pointer (some ⟨b, 0, none⟩) := (hF.ev 7 15 (by kernel_rfl)).trans q7
      refine wpOp_val rfl (wanted_none rfl) ?_ (fK (.pointer (some ⟨b, 1, none⟩)) fW (Below.refl _ _) (by rw [hT]; exact rfl))
      clear fK hE hF
      go_simp
    refine stepsAll_cons (k := 9) ?_ ?_
    · intro fa fx fW hF fB hE K fK
      have q8 : fx 8 = .pointer (some ⟨b, 1, none⟩) := by have q := hE ⟨8, .data⟩ (by simp) rfl; rw [hT] at q; exact q
      have ev16 : fa.tmps[16]?.getD undef = .pointer (some ⟨b, 1, none⟩) := (hF.ev 8 16 (by kernel_rfl)).trans q8
      have k0 := (HK.out.below fB).cell
      refine wpOp_val rfl (wanted_none rfl) ?_ (fK (.slice (some ⟨gk, 0, none⟩) n ck) fW (Below.refl _ _) (by rw [hT]; exact rfl))
      clear fK hE hF
      go_simp
    refine stepsAll_cons (k := 10) ?_ ?_
    · intro fa fx fW hF fB hE K fK
      have ev0 : fa.tmps[0]?.getD undef = .pointer (some ⟨b, 0, none⟩) := hF.eo 0 (by kernel_rfl)
      refine wpOp_val rfl (wanted_none rfl) ?_ (fK (.pointer (some ⟨b, 0, none⟩)) fW (Below.refl _ _) (by rw [hT]; exact rfl))
      clear fK hE hF
      go_simp
    refine stepsAll_cons (k := 11) ?_ ?_
    · intro fa fx fW hF fB hE K fK
      have q10 : fx 10 = .pointer (some ⟨b, 0, none⟩) := by have q := hE ⟨10, .data⟩ (by simp) rfl; rw [hT] at q; exact q
      have ev18 : fa.tmps[18]?.getD undef = .pointer (some ⟨b, 0, none⟩) := (hF.ev 10 18 (by kernel_rfl)).trans q10
      refine wpOp_val rfl (wanted_none rfl) ?_ (fK (.pointer (some ⟨b, 0, none⟩)) fW (Below.refl _ _) (by rw [hT]; exact rfl))
      clear fK hE hF
      go_simp
    refine stepsAll_cons (k := 12) ?_ ?_
    · intro fa fx fW hF fB hE K fK
      have q11 : fx 11 = .pointer (some ⟨b, 0, none⟩) := by have q := hE ⟨11, .data⟩ (by simp) rfl; rw [hT] at q; exact q
      have ev19 : fa.tmps[19]?.getD undef = .pointer (some ⟨b, 0, none⟩) := (hF.ev 11 19 (by kernel_rfl)).trans q11
      refine wpOp_val rfl (wanted_none rfl) ?_ (fK (.pointer (some ⟨b, 0, none⟩)) fW (Below.refl _ _) (by rw [hT]; exact rfl))
      clear fK hE hF
      go_simp
    refine stepsAll_cons (k := 13) ?_ ?_
    · intro fa fx fW hF fB hE K fK
      have q12 : fx 12 = .pointer (some ⟨b, 0, none⟩) := by have q := hE ⟨12, .data⟩ (by simp) rfl; rw [hT] at q; exact q
      have ev20 : fa.tmps[20]?.getD undef = .pointer (some ⟨b, 0, none⟩) := (hF.ev 12 20 (by kernel_rfl)).trans q12
      have k0 := (HB.out.below fB).cell
      refine wpOp_val rfl (wanted_none rfl) ?_ (fK (.slice (some ⟨gi, 0, none⟩) len ci) fW (Below.refl _ _) (by rw [hT]; exact rfl))
      clear fK hE hF
      go_simp
    refine stepsAll_cons (k := 14) ?_ ?_
    · intro fa fx fW hF fB hE K fK
      have q13 : fx 13 = .slice (some ⟨gi, 0, none⟩) len ci := by have q := hE ⟨13, .data⟩ (by simp) rfl; rw [hT] at q; exact q
      have ev21 : fa.tmps[21]?.getD undef = .slice (some ⟨gi, 0, none⟩) len ci := (hF.ev 13 21 (by kernel_rfl)).trans q13
      refine wpOp_val rfl (wanted_none rfl) ?_ (fK (.pointer (some ⟨gi, 0, none⟩)) fW (Below.refl _ _) (by rw [hT]; exact rfl))
      clear fK hE hF
      go_simp
    refine stepsAll_cons (k := 15) ?_ ?_
    · intro fa fx fW hF fB hE K fK
      have q14 : fx 14 = .pointer (some ⟨gi, 0, none⟩) := by have q := hE ⟨14, .data⟩ (by simp) rfl; rw [hT] at q; exact q
      have ev22 : fa.tmps[22]?.getD undef = .pointer (some ⟨gi, 0, none⟩) := (hF.ev 14 22 (by kernel_rfl)).trans q14
      have k0 := cell_below fB HG.out
      refine wpOp_val rfl (wanted_none rfl) ?_ (fK (.int .i64 x) fW (Below.refl _ _) (by rw [hT]; exact rfl))
      clear fK hE hF
      go_simp
    refine stepsAll_cons (k := 16) ?_ ?_
    · intro fa fx fW hF fB hE K fK
      have q9 : fx 9 = .slice (some ⟨gk, 0, none⟩) n ck := by have q := hE ⟨9, .data⟩ (by simp) rfl; rw [hT] at q; exact q
      have q15 : fx 15 = .int .i64 x := by have q := hE ⟨15, .data⟩ (by simp) rfl; rw [hT] at q; exact q
      have ev17 : fa.tmps[17]?.getD undef = .slice (some ⟨gk, 0, none⟩) n ck := (hF.ev 9 17 (by kernel_rfl)).trans q9
      have ev23 : fa.tmps[23]?.getD undef = .int .i64 x := (hF.ev 15 23 (by kernel_rfl)).trans q15
      refine wpOp_val rfl (wanted_none rfl) ?_ (fK (.pointer (some ⟨gk, x, none⟩)) fW (Below.refl _ _) (by rw [hT]; exact rfl))
      clear fK hE hF
      go_simp
    refine stepsAll_cons (k := 17) ?_ ?_
    · intro fa fx fW hF fB hE K fK
      have q16 : fx 16 = .pointer (some ⟨gk, x, none⟩) := by have q := hE ⟨16, .data⟩ (by simp) rfl; rw [hT] at q; exact q
      have ev24 : fa.tmps[24]?.getD undef = .pointer (some ⟨gk, x, none⟩) := (hF.ev 16 24 (by kernel_rfl)).trans q16
      have k0 := cell_below fB HQ.out
      refine wpOp_val rfl (wanted_none rfl) ?_ (fK (.int .i64 key) fW (Below.refl _ _) (by rw [hT]; exact rfl))
      clear fK hE hF
      go_simp
    refine stepsAll_cons (k := 18) ?_ ?_
    · intro fa fx fW hF fB hE K fK
      have q5 : fx 5 = .int .i64 x := by have q := hE ⟨5, .data⟩ (by simp) rfl; rw [hT] at q; exact q
      have ev13 : fa.tmps[13]?.getD undef = .int .i64 x := (hF.ev 5 13 (by kernel_rfl)).trans q5
      refine wpOp_val rfl (wanted_none rfl) ?_ (fK (.int .i64 x) fW (Below.refl _ _) (by rw [hT]; exact rfl))
      clear fK hE hF
      go_simp
    refine stepsAll_cons (k := 19) ?_ ?_
    · intro fa fx fW hF fB hE K fK
      have q17 : fx 17 = .int .i64 key := by have q := hE ⟨17, .data⟩ (by simp) rfl; rw [hT] at q; exact q
      have ev25 : fa.tmps[25]?.getD undef = .int .i64 key := (hF.ev 17 25 (by kernel_rfl)).trans q17
      refine wpOp_val rfl (wanted_none rfl) ?_ (fK (.int .i64 key) fW (Below.refl _ _) (by rw [hT]; exact rfl))
      clear fK hE hF
      go_simp
    refine stepsAll_cons (k := 20) ?_ ?_
    · intro fa fx fW hF fB hE K fK
      refine wpOp_val rfl (wanted_none rfl) ?_ (fK (.bool true) fW (Below.refl _ _) (by rw [hT]; exact rfl))
      clear fK hE hF
      go_simp
    exact stepsAll_nil
  intro fa fx fW hF fB hx
  have q18 : fx 18 = .int .i64 x := by have q := hx 18 (by decide); rw [hT] at q; exact q
  have ev2 : fa.tmps[2]?.getD undef = .int .i64 x := (hF.ev 18 2 (by kernel_rfl)).trans q18
  have q19 : fx 19 = .int .i64 key := by have q := hx 19 (by decide); rw [hT] at q; exact q
  have ev3 : fa.tmps[3]?.getD undef = .int .i64 key := (hF.ev 19 3 (by kernel_rfl)).trans q19
  have q20 : fx 20 = .bool true := by have q := hx 20 (by decide); rw [hT] at q; exact q
  have ev4 : fa.tmps[4]?.getD undef = .bool true := (hF.ev 20 4 (by kernel_rfl)).trans q20
  rw [hF.eq]
  clear hF hx
  simp only [putAll, Act.put, List.setIfInBounds_toArray, List.set_cons_zero, List.set_cons_succ, q18, q19, q20]
  go_wp2
  go_ret3
  exact ⟨rfl, fB⟩
set_option maxHeartbeats 4000000 in
theorem hpopNo {w : World} {b gk gp base n ck cp : Nat} {iv : Value} {h : HV} (H : Hp w b gk gp base n ck cp iv h) (hn : 0 < n) (h0 : h.ids.length = 0) :
    Calls Tryz.prog 55 #[.pointer (some ⟨b, 0, none⟩)] w fun e w' => e = .returned (.tuple #[.int .i64 0, .int .i64 0, .bool false]) ∧ w = w' := by
  have HL := Lib.hid (hleastNo H hn h0)
  clear H
  go_enter Tryz.func55, Tryz.ntmps55
  go_wp2_with (go_at_call 76; (with_reducible refine HL.out.mono ?_); rintro e w1 ⟨rfl, rfl⟩)
  go_ret3
  exact ⟨rfl, rfl⟩
theorem Acts.after {w w1 w' : World} {b gk gp base n ck cp : Nat} {iv : Value} {h : HV} (hb : Below w.heap.size w w1) (A : Acts w1 w' b gk gp base n ck cp iv h) : Acts w w' b gk gp base n ck cp iv h := by
  obtain ⟨⟨iv', h1, h2⟩, h3⟩ := A
  have := (Chg.of_below (S := HS b gk gp iv) hb).size
  exact ⟨⟨iv', h1, h2.imp_right (fun ⟨k, e, hk⟩ => ⟨k, e, by omega⟩)⟩, (Chg.of_below hb).trans h3⟩
set_option maxRecDepth 100000 in
set_option maxHeartbeats 4000000 in
theorem hpopOk {w : World} {b gk gp base n ck cp : Nat} {iv : Value} {h : HV} (H : Hp w b gk gp base n ck cp iv h) (s : Sd n h) (hn : n ≤ 4096) (x : Nat) (hx : h.ids[0]? = some x) :
    Calls Tryz.prog 55 #[.pointer (some ⟨b, 0, none⟩)] w fun e w' => e = .returned (.tuple #[.int .i64 x, .int .i64 (h.ks.getD x 0), .bool true]) ∧ Acts w w' b gk gp base n ck cp iv (outV h 0) := by
  have HL := Lib.hid (hleastOk H s x hx)
  have HO := Lib.hid (fun W (hb : Below w.heap.size w W) => hout (H.below hb) s hn 0 0 rfl (get_lt hx))
  generalize h.ks.getD x 0 = key at HL ⊢
  clear H s hx
  go_enter Tryz.func55, Tryz.ntmps55
  go_wp2_with (first
    | (go_at_call 76; (with_reducible refine HL.out.mono ?_); rintro e w1 ⟨rfl, hb1⟩)
    | (go_at_call 77; (with_reducible refine (HO.out _ hb1).mono ?_); rintro e w4 ⟨rfl, hA⟩))
  go_ret3
  exact ⟨rfl, hA.after hb1⟩
set_option maxHeartbeats 4000000 in
theorem hkeyNo {w : World} {b gk gp base n ck cp : Nat} {iv : Value} {h : HV} (H : Hp w b gk gp base n ck cp iv h) (hn : 0 < n) (id : Int) (hv : findV n h.pl id true 4 ≠ 0) :
    Calls Tryz.prog 48 #[.pointer (some ⟨b, 0, none⟩), .int .i64 id] w fun e w' => e = .returned (.tuple #[.int .i64 0, .bool false]) ∧ w = w' := by
  have HF := Lib.hid (hfind H hn id true 4)
  generalize findV n h.pl id true 4 = v at HF hv
  clear H
  go_enter Tryz.func48, Tryz.ntmps48
  go_wp2_with (go_at_call 73; (with_reducible refine HF.out.mono ?_); rintro e w1 ⟨rfl, rfl⟩)
  go_ret2
  exact ⟨rfl, rfl⟩
set_option maxHeartbeats 4000000 in
theorem hkeyOk {w : World} {b gk gp base n ck cp : Nat} {iv : Value} {h : HV} (H : Hp w b gk gp base n ck cp iv h) (s : Sd n h) (x : Nat) (hh : hasV h x) :
    Calls Tryz.prog 48 #[.pointer (some ⟨b, 0, none⟩), .int .i64 x] w fun e w' => e = .returned (.tuple #[.int .i64 (h.ks.getD x 0), .bool true]) ∧ w = w' := by
  have hx := has_lt s hh
  have HF := Lib.hid (hfind H (by omega) x true 4)
  rw [find_ok s x hh] at HF
  have k1 := H.kw.kb.cell
  obtain ⟨q1, _, _⟩ := rowGet H.kw.ko hx
  generalize h.ks.getD x 0 = key at q1 ⊢
  clear H s hh
  go_enter Tryz.func48, Tryz.ntmps48
  go_wp2_with (go_at_call 73; (with_reducible refine HF.out.mono ?_); rintro e w1 ⟨rfl, rfl⟩)
  go_ret2
  exact ⟨rfl, rfl⟩
end Go.Proofs.YtabdipfpfbdghaaGreat

/- A heap that New makes. -/
namespace Go.Proofs.YtabdipfpfbdghaaGreat
open Go.RowKit
set_option maxHeartbeats 1000000 in
theorem hmul64 (x y : Nat) (hx : x < 18446744073709551616) (hy : y < 18446744073709551616) (w : World) :
    Calls Tryz.prog 99 #[.int .u64 x, .int .u64 y] w fun e w' => e = .returned (.tuple #[.int .u64 ((x * y / 18446744073709551616 : Nat) : Int), .int .u64 ((x * y % 18446744073709551616 : Nat) : Int)]) ∧ w = w' := by
  obtain ⟨bd, bt, bw, hhi⟩ := Lib.mul64_hi x y hx hy
  have ba := Lib.half_mul_le (a := x / 4294967296) (b := y / 4294967296) (by omega) (by omega)
  have bb := Lib.half_mul_le (a := x / 4294967296) (b := y % 4294967296) (by omega) (by omega)
  have bc := Lib.half_mul_le (a := x % 4294967296) (b := y / 4294967296) (by omega) (by omega)
  have ba' : x / 4294967296 * (y / 4294967296) < 18446744073709551616 := by omega
  have bb' : x / 4294967296 * (y % 4294967296) < 18446744073709551616 := by omega
  have bc' : x % 4294967296 * (y / 4294967296) < 18446744073709551616 := by omega
  have bh1 : x / 4294967296 * (y / 4294967296) + (x / 4294967296 * (y % 4294967296) + x % 4294967296 * (y % 4294967296) / 4294967296) / 4294967296 < 18446744073709551616 := by omega
  have bh : x / 4294967296 * (y / 4294967296) + (x / 4294967296 * (y % 4294967296) + x % 4294967296 * (y % 4294967296) / 4294967296) / 4294967296 + ((x / 4294967296 * (y % 4294967296) + x % 4294967296 * (y % 4294967296) / 4294967296) % 4294967296 + x % 4294967296 * (y / 4294967296)) / 4294967296 < 18446744073709551616 := by omega
  go_enter Tryz.func99, Tryz.ntmps99
  go_wp2
  simp only [Mul64.maskN x hx, Mul64.maskN y hy, Mul64.divN, Mul64.mulN, Mul64.addN, Mul64.wrapN _ bd, Mul64.wrapN _ bb', Mul64.wrapN _ bt, Mul64.maskN _ bt, Mul64.wrapN _ bc', Mul64.wrapN _ bw, Mul64.wrapN _ ba', Mul64.wrapN _ bh1, Mul64.wrapN _ bh, Mul64.wrapM (x * y)]
  rw [hhi]
  go_ret2
  exact ⟨rfl, rfl⟩
theorem bmul1 (m : Nat) (hm : m ≤ 4096) (w : World) :
    Calls Tryz.prog 81 #[.int .u64 1, .int .u64 m] w fun e w' => e = .returned (.tuple #[.int .u64 0, .int .u64 m]) ∧ w = w' := by
  have H : Calls Tryz.prog 99 #[.int .u64 1, .int .u64 m] w fun e w' => e = .returned (.tuple #[.int .u64 ((1 * m / 18446744073709551616 : Nat) : Int), .int .u64 ((1 * m % 18446744073709551616 : Nat) : Int)]) ∧ w = w' := hmul64 1 m (by omega) (by omega) w
  rw [show (1 * m / 18446744073709551616 : Nat) = 0 by omega, show (1 * m % 18446744073709551616 : Nat) = m by omega] at H
  have HM : Hid (Calls Tryz.prog 99 #[.int .u64 1, .int .u64 m] w fun e w' => e = .returned (.tuple #[.int .u64 0, .int .u64 m]) ∧ w = w') := H
  clear H
  go_enter Tryz.func81, Tryz.ntmps81
  go_wp2_with (go_at_call 99; (with_reducible refine HM.out.mono ?_); rintro e w1 ⟨rfl, rfl⟩)
  go_ret2
  exact ⟨rfl, rfl⟩
/-- -1 so often, behind it 0. -/
def halfs (k m : Nat) : List Value := nums .i64 (List.replicate k (-1)) ++ nums .i64 (List.replicate (m - k) 0)
theorem halfs_len (k m : Nat) (h : k ≤ m) : (halfs k m).length = m := by simp [halfs, nums]; omega
theorem halfs_step (k j m : Nat) (rest : List Value) (hj : j + k ≤ m) : ((halfs k m ++ rest).take k ++ List.replicate j (Value.int .i64 (-1)) ++ (halfs k m ++ rest).drop (k + j)).toArray.toList.take m = halfs (k + j) m := by
  obtain ⟨d, rfl⟩ : ∃ d, m = k + j + d := ⟨m - (k + j), by omega⟩
  have e0 : halfs k (k + j + d) = List.replicate k (Value.int .i64 (-1)) ++ (List.replicate j (Value.int .i64 0) ++ List.replicate d (Value.int .i64 0)) := by
    unfold halfs nums
    rw [List.map_replicate, List.map_replicate, List.replicate_append_replicate, show k + j + d - k = j + d by omega]
  have e5 : halfs (k + j) (k + j + d) = List.replicate k (Value.int .i64 (-1)) ++ (List.replicate j (Value.int .i64 (-1)) ++ List.replicate d (Value.int .i64 0)) := by
    unfold halfs nums
    rw [List.map_replicate, List.map_replicate, ← List.append_assoc, List.replicate_append_replicate, show k + j + d - (k + j) = d by omega]
  rw [e0, e5]
  simp only [List.append_assoc]
  have t1 : (List.replicate k (Value.int .i64 (-1)) ++ (List.replicate j (Value.int .i64 0) ++ (List.replicate d (Value.int .i64 0) ++ rest))).take k = List.replicate k (Value.int .i64 (-1)) := by
    exact List.take_left' (List.length_replicate ..)
  have t2 : (List.replicate k (Value.int .i64 (-1)) ++ (List.replicate j (Value.int .i64 0) ++ (List.replicate d (Value.int .i64 0) ++ rest))).drop (k + j) = List.replicate d (Value.int .i64 0) ++ rest := by
    rw [← List.append_assoc]
    exact List.drop_left' (by simp)
  rw [t1, t2]
  simp only [← List.append_assoc]
  exact List.take_left' (by simp)
theorem copy_self {W : World} {base g m c k j : Nat} (h : W.ownsRow base 3 1 (.slice (some ⟨g, 0, none⟩) m c) m (halfs k m)) (hj : j + k ≤ m) (cs : List Value) (hcs : cs = List.replicate j (.int .i64 (-1))) (a : Addr) (sl sc dl dc : Nat) (hmin : j = Nat.min sl dl) (hsrc : ∀ i v, cs[i]? = some v → W.cell? (a.add i) = some v) :
    ∃ W', (∀ ty, (Builtin.copy_ #[36, 36] ty #[.slice (some ⟨g, k, none⟩) dl dc, .slice (some a) sl sc]).run Tryz.prog W = .ok (goInt j) W') ∧ W'.ownsRow base 3 1 (.slice (some ⟨g, 0, none⟩) m c) m (halfs (k + j) m) ∧ W.grownBy W' (some g) := by
  rcases h.2 with ⟨h3, _⟩ | ⟨g', cap', cur, hv, hb, hg, hnc, hcm, hcsz, htk⟩
  · simp at h3
  · simp only [Value.slice.injEq, Option.some.injEq, Addr.mk.injEq, and_true, true_and] at hv
    obtain ⟨rfl, rfl⟩ := hv
    have hcl : cs.length = j := by rw [hcs]; simp
    obtain ⟨i0, hi, hzz⟩ := Option.map_eq_some_iff.1 info_hint
    simp only [Prod.mk.injEq] at hzz
    have hsz : (Tryz.prog.info? 3).map (·.size) = some 1 := by rw [hi]; simp [hzz.2.1]
    have hle : m ≤ c := hnc
    refine ⟨W.setRow g (cur.toList.take k ++ cs ++ cur.toList.drop (k + cs.length)).toArray, fun ty => ?_, ⟨by rw [Nat.mul_one]; exact halfs_len _ _ (by omega), .inr ⟨g, c, _, rfl, hb, setRow_heap W g cur _ 3 _ hg, hnc, hcm, ?_, ?_⟩⟩, ⟨rfl, rfl, rfl, by simp [World.setRow], fun k _ hk => setRow_other W g k _ (fun e => hk (by rw [e]))⟩⟩
    · have hrun := run_copy_row (P := Tryz.prog) W 36 36 ty 3 g k dl dc a sl sc cur 3 cs Tryz.underlying36 hsz hg (by rw [hcl]; exact hmin) hsrc (by rw [hcl]; omega) (by rw [hcs]; intro v hv; rw [(List.mem_replicate.1 hv).2]; rfl)
      rw [hrun, hcl]
    · simp only [List.size_toArray, List.length_append, List.length_take, List.length_drop, Array.length_toList]
      omega
    · rw [Nat.mul_one] at htk ⊢
      obtain ⟨rest, hrest⟩ : ∃ rest, cur.toList.drop m = rest := ⟨_, rfl⟩
      have e1 : cur.toList = halfs k m ++ rest := by rw [← htk, ← hrest, List.take_append_drop]
      rw [hcl, e1, hcs]
      exact halfs_step k j m rest hj
set_option maxRecDepth 100000 in
set_option maxHeartbeats 4000000 in
theorem srepeat (g0 c0 : Nat) (m : Nat) (w : World) (h1 : 1 ≤ m) (hm : m ≤ 4096) (hr : Rds w 1 (some ⟨g0, 0, none⟩) 1 c0 (nums .i64 [-1])) :
    Calls Tryz.prog 58 #[.slice (some ⟨g0, 0, none⟩) 1 c0, .int .i64 m] w fun e w' => (∃ g, e = .returned (.slice (some ⟨g, 0, none⟩) m m) ∧ w'.ownsRow w.heap.size 3 1 (.slice (some ⟨g, 0, none⟩) m m) m (nums .i64 (List.replicate m (-1)))) ∧ Below w.heap.size w w' := by
  have HM := Lib.hid (bmul1 m hm)
  have HCP : Hid (∀ w2, w2.ownsRow w.heap.size 3 1 (.slice (some ⟨w.heap.size, 0, none⟩) m m) m (madeCells (Value.int .i64 0).cells (m * 1)).toList → Below w.heap.size w w2 → ∃ w3, (∀ ty, (Builtin.copy_ #[36, 36] ty #[.slice (some ⟨w.heap.size, 0, none⟩) m m, .slice (some ⟨g0, 0, none⟩) 1 c0]).run Tryz.prog w2 = .ok (goInt 1) w3) ∧ w3.ownsRow w.heap.size 3 1 (.slice (some ⟨w.heap.size, 0, none⟩) m m) m (halfs 1 m) ∧ Below w.heap.size w w3) := by
    intro w2 ho hb
    rw [Nat.mul_one, show (Value.int .i64 0).cells = #[.int .i64 0] from rfl, toList_madeCells_one, show List.replicate m (Value.int .i64 0) = halfs 0 m by simp [halfs, nums]] at ho
    have hr2 := hr.below hb
    obtain ⟨w3, r1, r2, r3⟩ := copy_self (j := 1) ho (by omega) [.int .i64 (-1)] rfl ⟨g0, 0, none⟩ 1 c0 m m (by show 1 = min 1 m; omega) (fun i v h => hr2.cell _ rfl i v h)
    exact ⟨w3, r1, r2, hb.grown r3 hb.size (fun k e => by cases e; exact Nat.le_refl _)⟩
  clear hr
  go_enter Tryz.func58, Tryz.ntmps58
  go_wp2_with (first
    | (go_at_call 81; (with_reducible refine (HM.out _).mono ?_); rintro e w1 ⟨rfl, rfl⟩)
    | (at_make; refine mkn (w0 := w) w.heap.size (by rfl) _ _ 36 3 _ 1 8 (by rfl) Tryz.underlying36 info_hint _ _ _ _ m (by rfl) (by rfl) (by first | rfl | simp) (by first | rfl | simp) (by omega) (by unfold maxLen; omega) (Below.refl _ _) (Nat.le_refl _) ?_; intro w2 ho2 hb2 hg2; obtain ⟨w3, hcp, ho3, hb3⟩ := HCP.out w2 ho2 hb2; clear ho2 hg2))
  clear HCP hcp HM
  go_loopw [8] (fun i wr => ∃ k : Nat, 1 ≤ k ∧ k ≤ m ∧ i = .int .i64 k ∧ wr.ownsRow w.heap.size 3 1 (.slice (some ⟨w.heap.size, 0, none⟩) m m) m (halfs k m) ∧ Below w.heap.size w wr) (fun i _ => m - (intOf i).toNat)
  case atStart => exact ⟨1, Nat.le_refl _, h1, rfl, ho3, hb3⟩
  case round =>
    obtain ⟨k, hk1, hkm, rfl, hox, hbx⟩ := hrel
    by_cases hk : k < m
    · have hkm' : (k : Int) < (m : Int) := by omega
      obtain ⟨j, hj⟩ : ∃ j, Nat.min k (m - k) = j := ⟨_, rfl⟩
      have hj1 : 1 ≤ j := by rw [← hj]; exact Nat.le_min.2 ⟨hk1, by omega⟩
      have hj2 : j ≤ m - k := by rw [← hj]; exact Nat.min_le_right _ _
      have hj3 : j ≤ k := by rw [← hj]; exact Nat.min_le_left _ _
      have HC : Hid (∀ W, W.ownsRow w.heap.size 3 1 (.slice (some ⟨w.heap.size, 0, none⟩) m m) m (halfs k m) → Below w.heap.size w W → ∃ W', (∀ ty, (Builtin.copy_ #[36, 36] ty #[.slice (some ⟨w.heap.size, k, none⟩) (m - k) (m - k), .slice (some ⟨w.heap.size, 0, none⟩) k m]).run Tryz.prog W = .ok (goInt j) W') ∧ W'.ownsRow w.heap.size 3 1 (.slice (some ⟨w.heap.size, 0, none⟩) m m) m (halfs (k + j) m) ∧ Below w.heap.size w W') := by
        intro W hoW hbW
        obtain ⟨W', r1, r2, r3⟩ := copy_self hoW (by omega) _ rfl ⟨w.heap.size, 0, none⟩ k m (m - k) (m - k) hj.symm (fun i v h => by
          have hi := get_lt h
          rw [List.length_replicate] at hi
          rw [List.getElem?_replicate, if_pos hi] at h
          cases h
          have h2 := hoW.cellAt i (by omega)
          have h3 : (halfs k m)[i]? = some (Value.int .i64 (-1)) := by
            unfold halfs nums
            rw [List.map_replicate, List.map_replicate, List.getElem?_append_left (by rw [List.length_replicate]; omega), List.getElem?_replicate, if_pos (by omega)]
          have h4 : (halfs k m)[i]'(by rw [halfs_len _ _ hkm]; omega) = Value.int .i64 (-1) := by
            rw [List.getElem?_eq_getElem (by rw [halfs_len _ _ hkm]; omega)] at h3
            exact Option.some.inj h3
          have h5 : (⟨w.heap.size, 0, none⟩ : Addr).add i = ⟨w.heap.size, i, none⟩ := by unfold Addr.add; split <;> simp_all
          rw [h5, h2, ← h4]
          exact List.getElem?_eq_getElem _)
        exact ⟨W', r1, r2, hbW.grown r3 hbW.size (fun k e => by cases e; exact Nat.le_refl _)⟩
      clear hj
      go_wp2
      obtain ⟨G, hG⟩ : ∃ G : Option Value → World → Prop, ∀ a W, G a W = ((a = none → W.ownsRow w.heap.size 3 1 (.slice (some ⟨w.heap.size, 0, none⟩) m m) m (halfs k m) ∧ Below w.heap.size w W) ∧ (∀ u, a = some u → W.ownsRow w.heap.size 3 1 (.slice (some ⟨w.heap.size, 0, none⟩) m m) m (halfs (k + j) m) ∧ Below w.heap.size w W)) := ⟨_, fun _ _ => rfl⟩
      obtain ⟨S_, hS_⟩ : ∃ S_ : World → World → Prop, S_ = (fun _ _ => True) := ⟨_, rfl⟩
      have hR_ : ∀ W, S_ W W := by intro W; rw [hS_]; exact trivial
      obtain ⟨T, hT⟩ : ∃ T : Nat → FactS S_, ∀ t_, T t_ = ([FactS.eq (.int .i64 k), FactS.eq (.slice (some ⟨w.heap.size, 0, none⟩) m m), FactS.eq (.int .i64 k), FactS.eq (.slice (some ⟨w.heap.size, k, none⟩) (m - k) (m - k)), FactS.eq (.slice (some ⟨w.heap.size, 0, none⟩) m m), FactS.eq (.int .i64 k), FactS.eq (.slice (some ⟨w.heap.size, 0, none⟩) k m), FactS.eq (.int .i64 j), FactS.eq (.int .i64 (k + j)), FactS.eq (.int .i64 (k + j))] : List (FactS S_)).getD t_ FactS.any := ⟨_, fun _ => rfl⟩
      have hP_ : ∀ i_ v_ (y_ : Nat → Option Value) W_, ([7].contains i_) = false → G (y_ 7) W_ → G (updY y_ i_ v_ 7) W_ := by
        intro i_ v_ y_ W_ hi_ h_
        simp only [List.contains_cons, List.contains_nil, Bool.or_false, beq_eq_false_iff_ne, ne_eq] at hi_
        rw [updY_ne y_ i_ v_ hi_]
        exact h_
      refine region_tabK [(0, 38), (1, 39), (2, 40), (3, 41), (4, 42), (5, 43), (6, 44), (7, 45), (8, 46), (9, 8)] S_ T (fun y_ W_ => G (y_ 7) W_) (by kernel_rfl) (by kernel_rfl) (by kernel_rfl) (by kernel_rfl) (by kernel_rfl) ?_ ?_ ?_
      · skip
        show G none _
        rw [hG]
        exact ⟨fun _ => ⟨own_below hox (below_dr (Below.refl _ _) 1), below_dr hbx 1⟩, fun u h => by cases h⟩
      · skip
        refine stepsAll_cons (k := 0) ?_ ?_
        · intro fa fx fW fy hF hN hO hJ hE K fK
          have hJ : G (fy 7) fW := hJ
          have ev8 : fa.tmps[8]?.getD undef = .int .i64 k := hO 9 _ 8 ⟨0, .phase⟩ rfl rfl (by simp) rfl rfl
          refine wpOp_val rfl (wanted_none rfl) ?_ (fK (.int .i64 k) fW (hR_ fW) (by rw [hT]; exact rfl) (hP_ 0 _ fy fW rfl hJ))
          clear fK hE hF hJ hN hO
          go_simp
        refine stepsAll_cons (k := 1) ?_ ?_
        · intro fa fx fW fy hF hN hO hJ hE K fK
          have hJ : G (fy 7) fW := hJ
          have ev7 : fa.tmps[7]?.getD undef = .slice (some ⟨w.heap.size, 0, none⟩) m m := hF.eo 7 (by kernel_rfl)
          refine wpOp_val rfl (wanted_none rfl) ?_ (fK (.slice (some ⟨w.heap.size, 0, none⟩) m m) fW (hR_ fW) (by rw [hT]; exact rfl) (hP_ 1 _ fy fW rfl hJ))
          clear fK hE hF hJ hN hO
          go_simp
        refine stepsAll_cons (k := 2) ?_ ?_
        · intro fa fx fW fy hF hN hO hJ hE K fK
          have hJ : G (fy 7) fW := hJ
          have ev8 : fa.tmps[8]?.getD undef = .int .i64 k := hO 9 _ 8 ⟨2, .phase⟩ rfl rfl (by simp) rfl rfl
          refine wpOp_val rfl (wanted_none rfl) ?_ (fK (.int .i64 k) fW (hR_ fW) (by rw [hT]; exact rfl) (hP_ 2 _ fy fW rfl hJ))
          clear fK hE hF hJ hN hO
          go_simp
        refine stepsAll_cons (k := 3) ?_ ?_
        · intro fa fx fW fy hF hN hO hJ hE K fK
          have hJ : G (fy 7) fW := hJ
          have q1 : fx 1 = .slice (some ⟨w.heap.size, 0, none⟩) m m := by have q := (hE ⟨1, .data⟩ (by simp) rfl).2; rw [hT] at q; exact q
          have q2 : fx 2 = .int .i64 k := by have q := (hE ⟨2, .data⟩ (by simp) rfl).2; rw [hT] at q; exact q
          have ev39 : fa.tmps[39]?.getD undef = .slice (some ⟨w.heap.size, 0, none⟩) m m := (hF.ev 1 39 (by kernel_rfl)).trans q1
          have ev40 : fa.tmps[40]?.getD undef = .int .i64 k := (hF.ev 2 40 (by kernel_rfl)).trans q2
          have hx1 : ¬ m = k := by omega
          refine wpOp_val rfl (wanted_none rfl) ?_ (fK (.slice (some ⟨w.heap.size, k, none⟩) (m - k) (m - k)) fW (hR_ fW) (by rw [hT]; exact rfl) (hP_ 3 _ fy fW rfl hJ))
          clear fK hE hF hJ hN hO
          go_simp
        refine stepsAll_cons (k := 4) ?_ ?_
        · intro fa fx fW fy hF hN hO hJ hE K fK
          have hJ : G (fy 7) fW := hJ
          have ev7 : fa.tmps[7]?.getD undef = .slice (some ⟨w.heap.size, 0, none⟩) m m := hF.eo 7 (by kernel_rfl)
          refine wpOp_val rfl (wanted_none rfl) ?_ (fK (.slice (some ⟨w.heap.size, 0, none⟩) m m) fW (hR_ fW) (by rw [hT]; exact rfl) (hP_ 4 _ fy fW rfl hJ))
          clear fK hE hF hJ hN hO
          go_simp
        refine stepsAll_cons (k := 5) ?_ ?_
        · intro fa fx fW fy hF hN hO hJ hE K fK
          have hJ : G (fy 7) fW := hJ
          have ev8 : fa.tmps[8]?.getD undef = .int .i64 k := hO 9 _ 8 ⟨5, .phase⟩ rfl rfl (by simp) rfl rfl
          refine wpOp_val rfl (wanted_none rfl) ?_ (fK (.int .i64 k) fW (hR_ fW) (by rw [hT]; exact rfl) (hP_ 5 _ fy fW rfl hJ))
          clear fK hE hF hJ hN hO
          go_simp
        refine stepsAll_cons (k := 6) ?_ ?_
        · intro fa fx fW fy hF hN hO hJ hE K fK
          have hJ : G (fy 7) fW := hJ
          have q4 : fx 4 = .slice (some ⟨w.heap.size, 0, none⟩) m m := by have q := (hE ⟨4, .data⟩ (by simp) rfl).2; rw [hT] at q; exact q
          have q5 : fx 5 = .int .i64 k := by have q := (hE ⟨5, .data⟩ (by simp) rfl).2; rw [hT] at q; exact q
          have ev42 : fa.tmps[42]?.getD undef = .slice (some ⟨w.heap.size, 0, none⟩) m m := (hF.ev 4 42 (by kernel_rfl)).trans q4
          have ev43 : fa.tmps[43]?.getD undef = .int .i64 k := (hF.ev 5 43 (by kernel_rfl)).trans q5
          refine wpOp_val rfl (wanted_none rfl) ?_ (fK (.slice (some ⟨w.heap.size, 0, none⟩) k m) fW (hR_ fW) (by rw [hT]; exact rfl) (hP_ 6 _ fy fW rfl hJ))
          clear fK hE hF hJ hN hO
          go_simp
        refine stepsAll_cons (k := 7) ?_ ?_
        · intro fa fx fW fy hF hN hO hJ hE K fK
          have hJ : G (fy 7) fW := hJ
          have q3 : fx 3 = .slice (some ⟨w.heap.size, k, none⟩) (m - k) (m - k) := by have q := (hE ⟨3, .data⟩ (by simp) rfl).2; rw [hT] at q; exact q
          have q6 : fx 6 = .slice (some ⟨w.heap.size, 0, none⟩) k m := by have q := (hE ⟨6, .data⟩ (by simp) rfl).2; rw [hT] at q; exact q
          have ev41 : fa.tmps[41]?.getD undef = .slice (some ⟨w.heap.size, k, none⟩) (m - k) (m - k) := (hF.ev 3 41 (by kernel_rfl)).trans q3
          have ev44 : fa.tmps[44]?.getD undef = .slice (some ⟨w.heap.size, 0, none⟩) k m := (hF.ev 6 44 (by kernel_rfl)).trans q6
          rw [hG, hN] at hJ
          obtain ⟨j0, _⟩ := hJ
          obtain ⟨j1, j2⟩ := j0 rfl
          obtain ⟨W2, hc1, hc2, hc3⟩ := HC.out _ j1 j2
          refine wpOp_to rfl (wanted_none rfl) (v := goInt j) (W' := W2) (by clear fK hE hF; go_simp) (fK _ _ (by rw [hS_]; trivial) (by rw [hT]; exact rfl) ?_)
          show G (some _) _
          rw [hG]
          exact ⟨(fun e => by cases e), fun u e => ⟨hc2, hc3⟩⟩
        refine stepsAll_cons (k := 8) ?_ ?_
        · intro fa fx fW fy hF hN hO hJ hE K fK
          have hJ : G (fy 7) fW := hJ
          have q0 : fx 0 = .int .i64 k := by have q := (hE ⟨0, .data⟩ (by simp) rfl).2; rw [hT] at q; exact q
          have q7 : fx 7 = .int .i64 j := by have q := (hE ⟨7, .data⟩ (by simp) rfl).2; rw [hT] at q; exact q
          have y7 : fy 7 = some (fx 7) := (hE ⟨7, .data⟩ (by simp) rfl).1
          have ev38 : fa.tmps[38]?.getD undef = .int .i64 k := (hF.ev 0 38 (by kernel_rfl)).trans q0
          have ev45 : fa.tmps[45]?.getD undef = .int .i64 j := (hF.ev 7 45 (by kernel_rfl)).trans q7
          have hw8 : IntKind.i64.wrap ((k : Int) + (j : Int)) = (k : Int) + (j : Int) := by rw [IntKind.wrap_i64] <;> omega
          refine wpOp_val rfl (wanted_none rfl) ?_ (fK (.int .i64 (k + j)) fW (hR_ fW) (by rw [hT]; exact rfl) (hP_ 8 _ fy fW rfl hJ))
          clear fK hE hF hJ hN hO
          go_simp
        refine stepsAll_cons (k := 9) ?_ ?_
        · intro fa fx fW fy hF hN hO hJ hE K fK
          have hJ : G (fy 7) fW := hJ
          have q8 : fx 8 = .int .i64 (k + j) := by have q := (hE ⟨8, .data⟩ (by simp) rfl).2; rw [hT] at q; exact q
          have ev46 : fa.tmps[46]?.getD undef = .int .i64 (k + j) := (hF.ev 8 46 (by kernel_rfl)).trans q8
          refine wpOp_val rfl (wanted_none rfl) ?_ (fK (.int .i64 (k + j)) fW (hR_ fW) (by rw [hT]; exact rfl) (hP_ 9 _ fy fW rfl hJ))
          clear fK hE hF hJ hN hO
          go_simp
        exact stepsAll_nil
      intro fa fx fW fy hF hJ0 hx
      have y7 : fy 7 = some (fx 7) := (hx 7 (by decide)).1
      have hJ : G (fy 7) fW := hJ0
      clear hJ0
      rw [y7] at hJ
      have q9 : fx 9 = .int .i64 (k + j) := by have q := (hx 9 (by decide)).2; rw [hT] at q; exact q
      have ev8 : fa.tmps[8]?.getD undef = .int .i64 (k + j) := (hF.ev 9 8 (by kernel_rfl)).trans q9
      rw [hF.eq]
      clear hF hx hT T hP_ hR_ y7
      simp only [putAll, Act.put, List.setIfInBounds_toArray, List.set_cons_zero, List.set_cons_succ, q9]
      rw [hG] at hJ
      obtain ⟨p1, p2⟩ := hJ.2 _ rfl
      clear hJ
      go_wp2
      go_roundw
      case rel => exact ⟨k + j, by omega, by omega, by go_num, p1, p2⟩
      case measure => simp only [intOf]; omega
    · obtain rfl : k = m := by omega
      go_wp2
      go_ret
      refine ⟨⟨_, rfl, ?_⟩, hbx⟩
      rwa [show halfs k k = nums .i64 (List.replicate k (-1)) by simp [halfs, nums]] at hox
set_option maxHeartbeats 1000000 in
/-- New, of a size that may not be. -/
theorem hnewNo (z : Int) (w : World) (hz : z < 1 ∨ 4096 < z) : Calls Tryz.prog 24 #[.int .i64 z] w fun e w' => e = .returned (.pointer none) ∧ w = w' := by
  by_cases h1 : z < 1
  · go_enter Tryz.func24, Tryz.ntmps24
    go_wp2
    go_ret
    exact ⟨rfl, rfl⟩
  · have h2 : 4096 < z := by omega
    go_enter Tryz.func24, Tryz.ntmps24
    go_wp2
    go_ret
    exact ⟨rfl, rfl⟩
/-- What New has made. -/
def FHp (B n : Nat) : Fact := ⟨fun v W => ∃ b gk gp cp, v = .pointer (some ⟨b, 0, none⟩) ∧ B ≤ b ∧ B ≤ gk ∧ B ≤ gp ∧ Hp W b gk gp B n n cp (.slice none 0 0) (newV n), fun _ _ _ ⟨b, gk, gp, cp, h1, h2, h3, h4, h5⟩ hb => ⟨b, gk, gp, cp, h1, h2, h3, h4, h5.below hb⟩⟩
def FRow (B n : Nat) (l : List Int) : Fact := ⟨fun v W => ∃ g, v = .slice (some ⟨g, 0, none⟩) n n ∧ W.ownsRow B 3 1 v n (nums .i64 l), fun _ _ _ ⟨g, h1, h2⟩ hb => ⟨g, h1, own_below h2 hb⟩⟩
def FNew (B n : Nat) : Fact := ⟨fun v W => ∃ gk gp, v = .agg #[.slice none 0 0, .slice (some ⟨gk, 0, none⟩) n n, .slice (some ⟨gp, 0, none⟩) n n] ∧ W.ownsRow B 3 1 (.slice (some ⟨gk, 0, none⟩) n n) n (nums .i64 (List.replicate n 0)) ∧ W.ownsRow B 3 1 (.slice (some ⟨gp, 0, none⟩) n n) n (nums .i64 (List.replicate n (-1))), fun _ _ _ ⟨gk, gp, h1, h2, h3⟩ hb => ⟨gk, gp, h1, own_below h2 hb, own_below h3 hb⟩⟩
theorem new_hp {W : World} {B n gk gp : Nat} (hn : 1 ≤ n) (hB : B ≤ W.heap.size) (h1 : W.ownsRow B 3 1 (.slice (some ⟨gk, 0, none⟩) n n) n (nums .i64 (List.replicate n 0))) (h2 : W.ownsRow B 3 1 (.slice (some ⟨gp, 0, none⟩) n n) n (nums .i64 (List.replicate n (-1)))) :
    (FHp B n).p (.pointer (some ⟨W.heap.size, 0, none⟩)) (W.alloc (.cells #[.slice none 0 0, .slice (some ⟨gk, 0, none⟩) n n, .slice (some ⟨gp, 0, none⟩) n n] 73)) := by
  have hb : Below W.heap.size W (W.alloc (.cells #[.slice none 0 0, .slice (some ⟨gk, 0, none⟩) n n, .slice (some ⟨gp, 0, none⟩) n n] 73)) := below_al (Below.refl _ _) _
  have l1 := (h1.lt gk rfl).2
  have l2 := (h2.lt gp rfl).2
  have hne : gp ≠ gk := by
    intro e
    subst e
    have t1 := (rowGet h1 (i := 0) (by omega)).1
    have t2 := (rowGet h2 (i := 0) (by omega)).1
    rw [t1] at t2
    simp [show 0 < n by omega] at t2
  refine ⟨_, gk, gp, n, rfl, hB, (h1.lt gk rfl).1, (h2.lt gp rfl).1, ⟨?_, ⟨rfl, .inl ⟨rfl, rfl⟩⟩, ⟨?_, own_below h1 hb⟩, ?_, own_below h2 hb, by omega, hne, by omega, fun k e => by cases e⟩⟩ <;> (constructor <;> go_simp)
set_option maxRecDepth 100000 in
set_option maxHeartbeats 4000000 in
theorem hnew (n : Nat) (z : Int) (hz : z = (n : Int)) (w : World) (h1 : 1 ≤ n) (h2 : n ≤ 4096) : Calls Tryz.prog 24 #[.int .i64 z] w fun e w' => ((∃ v, e = .returned v ∧ (FHp w.heap.size n).p v w') ∧ Below w.heap.size w w') := by
  subst hz
  have hx1 : ¬ ((n : Int) < 1) := by omega
  have hx2 : ¬ (4096 < (n : Int)) := by omega
  have HP := Lib.hid (fun g c W hr => srepeat g c n W h1 h2 hr)
  go_enter Tryz.func24, Tryz.ntmps24
  go_wp2
  obtain ⟨T, hT⟩ : ∃ T : Nat → Fact, ∀ t_, T t_ = ([Fact.eq (.int .i64 n), FRow w.heap.size n (List.replicate n 0), (⟨fun u W => ∃ g, u = .slice (some ⟨g, 0, none⟩) 1 1 ∧ Rds W 1 (some ⟨g, 0, none⟩) 1 1 (nums .i64 [-1]), fun u W W' ⟨g, h1, h2⟩ hb => ⟨g, h1, h2.below hb⟩⟩ : Fact), Fact.eq (.int .i64 n), FRow w.heap.size n (List.replicate n (-1)), FNew w.heap.size n, FHp w.heap.size n, FHp w.heap.size n] : List (Fact)).getD t_ Fact.any := ⟨_, fun _ => rfl⟩
  refine region_tab [(0, 9), (1, 10), (2, 11), (3, 12), (4, 13), (5, 14), (6, 15), (7, 2)] T (by kernel_rfl) (by kernel_rfl) (by kernel_rfl) (by kernel_rfl) (by kernel_rfl) ?_ ?_
  · skip
    refine stepsAll_cons (k := 0) ?_ ?_
    · intro fa fx fW hF fB hE K fK
      have ev0 : fa.tmps[0]?.getD undef = .int .i64 n := hF.eo 0 (by kernel_rfl)
      refine wpOp_val rfl (wanted_none rfl) ?_ (fK (.int .i64 n) fW (Below.refl _ _) (by rw [hT]; exact rfl))
      clear fK hE hF
      go_simp
    refine stepsAll_cons (k := 1) ?_ ?_
    · intro fa fx fW hF fB hE K fK
      have q0 : fx 0 = .int .i64 n := by have q := hE ⟨0, .data⟩ (by simp) rfl; rw [hT] at q; exact q
      have ev9 : fa.tmps[9]?.getD undef = .int .i64 n := (hF.ev 0 9 (by kernel_rfl)).trans q0
      refine wpOp_list rfl (mkn (w0 := fW) w.heap.size rfl _ _ 36 3 _ 1 8 rfl Tryz.underlying36 info_hint .i64 .i64 _ _ n (by go_simp) (by go_simp) rfl rfl (by omega) (by unfold maxLen; omega) (Below.refl _ _) fB.size ?_)
      intro w2 ho2 hb2 hg2
      rw [Nat.mul_one, show (Value.int .i64 0).cells = #[.int .i64 0] from rfl, toList_madeCells_one] at ho2
      exact fK _ _ ((Below.refl _ _).grown hg2 (Nat.le_refl _) (fun k hk => by cases hk)) (by rw [hT]; exact ⟨_, rfl, by simpa [nums] using ho2⟩)
    refine stepsAll_cons (k := 2) ?_ ?_
    · intro fa fx fW hF fB hE K fK
      refine wpOp_to rfl (wanted_none rfl) (v := .slice (some ⟨fW.heap.size, 0, none⟩) 1 1) (W' := fW.alloc (.cells #[.int .i64 (-1)] 3)) (by clear fK hE hF; go_simp) (fK _ _ (below_al (Below.refl _ _) _) (by rw [hT]; exact ⟨_, rfl, rds_lit fW 3 1 1 _ rfl (by decide)⟩))
    refine stepsAll_cons (k := 3) ?_ ?_
    · intro fa fx fW hF fB hE K fK
      have ev0 : fa.tmps[0]?.getD undef = .int .i64 n := hF.eo 0 (by kernel_rfl)
      refine wpOp_val rfl (wanted_none rfl) ?_ (fK (.int .i64 n) fW (Below.refl _ _) (by rw [hT]; exact rfl))
      clear fK hE hF
      go_simp
    refine stepsAll_cons (k := 4) ?_ ?_
    · intro fa fx fW hF fB hE K fK
      have q2 : ((⟨fun u W => ∃ g, u = .slice (some ⟨g, 0, none⟩) 1 1 ∧ Rds W 1 (some ⟨g, 0, none⟩) 1 1 (nums .i64 [-1]), fun u W W' ⟨g, h1, h2⟩ hb => ⟨g, h1, h2.below hb⟩⟩ : Fact)).p (fx 2) fW := by have q := hE ⟨2, .data⟩ (by simp) rfl; rw [hT] at q; exact q
      have q3 : fx 3 = .int .i64 n := by have q := hE ⟨3, .data⟩ (by simp) rfl; rw [hT] at q; exact q
      have ev11 : fa.tmps[11]?.getD undef = fx 2 := hF.ev 2 11 (by kernel_rfl)
      have ev12 : fa.tmps[12]?.getD undef = .int .i64 n := (hF.ev 3 12 (by kernel_rfl)).trans q3
      refine wpOp_call rfl (wanted_none rfl) (by go_simp; exact ⟨rfl, rfl⟩) ?_
      obtain ⟨g, hg, hr⟩ := q2
      rw [hg]
      refine (HP.out _ _ fW hr).mono ?_
      rintro e w1 ⟨⟨g2, rfl, ho⟩, hb⟩
      exact ⟨_, rfl, fK (_) (w1) (hb) (by rw [hT]; exact ⟨g2, rfl, own_mono ho fB.size⟩)⟩
    refine stepsAll_cons (k := 5) ?_ ?_
    · intro fa fx fW hF fB hE K fK
      have q1 : (FRow w.heap.size n (List.replicate n 0)).p (fx 1) fW := by have q := hE ⟨1, .data⟩ (by simp) rfl; rw [hT] at q; exact q
      have q4 : (FRow w.heap.size n (List.replicate n (-1))).p (fx 4) fW := by have q := hE ⟨4, .data⟩ (by simp) rfl; rw [hT] at q; exact q
      have ev10 : fa.tmps[10]?.getD undef = fx 1 := hF.ev 1 10 (by kernel_rfl)
      have ev13 : fa.tmps[13]?.getD undef = fx 4 := hF.ev 4 13 (by kernel_rfl)
      obtain ⟨gk, e1, o1⟩ := q1
      obtain ⟨gp, e2, o2⟩ := q4
      rw [e1] at ev10 o1
      rw [e2] at ev13 o2
      refine wpOp_val rfl (wanted_none rfl) ?_ (fK (.agg #[.slice none 0 0, .slice (some ⟨gk, 0, none⟩) n n, .slice (some ⟨gp, 0, none⟩) n n]) fW (Below.refl _ _) (by rw [hT]; exact ⟨gk, gp, rfl, o1, o2⟩))
      clear fK hE hF o1 o2
      go_simp
    refine stepsAll_cons (k := 6) ?_ ?_
    · intro fa fx fW hF fB hE K fK
      have q5 : (FNew w.heap.size n).p (fx 5) fW := by have q := hE ⟨5, .data⟩ (by simp) rfl; rw [hT] at q; exact q
      have ev14 : fa.tmps[14]?.getD undef = fx 5 := hF.ev 5 14 (by kernel_rfl)
      obtain ⟨gk, gp, e5, o1, o2⟩ := q5
      rw [e5] at ev14
      have hnh := new_hp h1 fB.size o1 o2
      refine wpOp_to rfl (wanted_none rfl) ?_ (fK (.pointer (some ⟨fW.heap.size, 0, none⟩)) (fW.alloc (.cells #[.slice none 0 0, .slice (some ⟨gk, 0, none⟩) n n, .slice (some ⟨gp, 0, none⟩) n n] 73)) (below_al (Below.refl _ _) _) (by rw [hT]; exact hnh))
      clear fK hE hF o1 o2 hnh
      go_simp
    refine stepsAll_cons (k := 7) ?_ ?_
    · intro fa fx fW hF fB hE K fK
      have q6 : (FHp w.heap.size n).p (fx 6) fW := by have q := hE ⟨6, .data⟩ (by simp) rfl; rw [hT] at q; exact q
      have ev15 : fa.tmps[15]?.getD undef = fx 6 := hF.ev 6 15 (by kernel_rfl)
      refine wpOp_val rfl (wanted_none rfl) (v := fx 6) (by clear fK hE hF; go_simp) (fK _ _ (Below.refl _ _) (by rw [hT]; exact q6))
    exact stepsAll_nil
  intro fa fx fW hF fB hx
  have q7 : (FHp w.heap.size n).p (fx 7) fW := by have q := hx 7 (by decide); rw [hT] at q; exact q
  have ev2 : fa.tmps[2]?.getD undef = fx 7 := hF.ev 7 2 (by kernel_rfl)
  rw [hF.eq]
  clear hF hx
  simp only [putAll, Act.put, List.setIfInBounds_toArray, List.set_cons_zero, List.set_cons_succ, ]
  clear HP
  go_wp2
  go_ret
  exact ⟨⟨_, rfl, q7⟩, fB⟩
end Go.Proofs.YtabdipfpfbdghaaGreat

/- A heap of a call's own, that New made: what each act leaves; the document's examples. -/
namespace Go.Proofs.YtabdipfpfbdghaaGreat
open Go.RowKit
theorem has_mem {h : HV} {x : Nat} : hasV h x ↔ x ∈ h.ids := by
  unfold hasV
  exact List.mem_iff_getElem?.symm
theorem nodup_ids {n : Nat} {h : HV} (s : Sd n h) : h.ids.Nodup := by
  refine List.pairwise_iff_getElem.2 (fun i j hi hj hij he => ?_)
  have h1 : h.ids[j]? = some h.ids[j] := List.getElem?_eq_getElem hj
  have h2 : h.ids[i]? = some h.ids[j] := by rw [← he]; exact List.getElem?_eq_getElem hi
  have := s.bij.inj h2 h1
  omega
theorem ids_lt {n : Nat} {h : HV} (s : Sd n h) (x : Nat) (hx : x < n) (hh : ¬ hasV h x) : h.ids.length < n := by
  have h1 := nodup_le n (x :: h.ids) (List.nodup_cons.2 ⟨fun e => hh (has_mem.2 e), nodup_ids s⟩) (fun y hy => by
    rcases List.mem_cons.1 hy with e | e
    · rw [e]; exact hx
    · exact has_lt s (has_mem.2 e))
  have h2 : h.ids.length + 1 ≤ n := h1
  omega
theorem pl_no {n : Nat} {h : HV} (s : Sd n h) (x : Nat) (hx : x < n) (hh : ¬ hasV h x) : h.pl.getD x 0 = -1 := by
  have h2 : h.pl[x]? = some (-1) := Classical.not_not.1 (fun e => hh ((has_iff s x hx).2 e))
  rw [List.getD_eq_getElem?_getD, h2]
  rfl
/-- A heap that lies behind w0. -/
def Hx (w0 w : World) (b n : Nat) (h : HV) : Prop :=
  ∃ gk gp ck cp iv, Hp w b gk gp w0.heap.size n ck cp iv h ∧ Sd n h ∧ w0.heap.size ≤ b ∧ w0.heap.size ≤ gk ∧ w0.heap.size ≤ gp ∧ Below w0.heap.size w0 w
theorem Hx.bl {w0 w : World} {b n : Nat} {h : HV} (H : Hx w0 w b n h) : Below w0.heap.size w0 w := by
  obtain ⟨_, _, _, _, _, _, _, _, _, _, h⟩ := H
  exact h
theorem Hx.sd {w0 w : World} {b n : Nat} {h : HV} (H : Hx w0 w b n h) : Sd n h := by
  obtain ⟨_, _, _, _, _, _, h, _⟩ := H
  exact h
theorem Hx.below {w0 w w1 : World} {b n : Nat} {h : HV} (H : Hx w0 w b n h) (hb : Below w.heap.size w w1) : Hx w0 w1 b n h := by
  obtain ⟨gk, gp, ck, cp, iv, H1, H2, H3, H4, H5, H6⟩ := H
  exact ⟨gk, gp, ck, cp, iv, H1.below hb, H2, H3, H4, H5, below_then H6 H6.size hb⟩
theorem Hx.acts {w0 w w' : World} {b gk gp n ck cp : Nat} {iv : Value} {h h' : HV} (H : Hp w b gk gp w0.heap.size n ck cp iv h) (H3 : w0.heap.size ≤ b) (H4 : w0.heap.size ≤ gk) (H5 : w0.heap.size ≤ gp) (H6 : Below w0.heap.size w0 w) (s : Sd n h') (A : Acts w w' b gk gp w0.heap.size n ck cp iv h') : Hx w0 w' b n h' := by
  obtain ⟨⟨iv', h1, _⟩, h3⟩ := A
  exact ⟨gk, gp, ck, cp, iv', h1, s, H3, H4, H5, h3.toBelow H6 H6.size (fun k e => by
    rcases e with e | e | e | e
    · omega
    · omega
    · omega
    · exact own_base H.io k e)⟩
theorem Hx.made {w0 W : World} {n : Nat} {v : Value} (h : (FHp w0.heap.size n).p v W) (hb : Below w0.heap.size w0 W) : ∃ b, v = .pointer (some ⟨b, 0, none⟩) ∧ Hx w0 W b n (newV n) := by
  obtain ⟨b, gk, gp, cp, h1, h2, h3, h4, h5⟩ := h
  exact ⟨b, h1, gk, gp, n, cp, _, h5, (new_ok n).1, h2, h3, h4, hb⟩
theorem xput {w0 w : World} {b n : Nat} {h : HV} (H : Hx w0 w b n h) (hn : n ≤ 4096) (x : Nat) (z key : Int) (hz : z = (x : Int)) (hx : x < n) (hh : ¬ hasV h x) :
    Calls Tryz.prog 54 #[.pointer (some ⟨b, 0, none⟩), .int .i64 z, .int .i64 key] w fun e w' => e = .returned (.int .i64 0) ∧ Hx w0 w' b n (putV h x key) := by
  subst hz
  obtain ⟨gk, gp, ck, cp, iv, H1, H2, H3, H4, H5, H6⟩ := H
  refine (hputOk H1 (by omega) hn x key hx (InR.of_bij H2.bij) (ids_lt H2 x hx hh) (pl_no H2 x hx hh) H6.size).mono ?_
  rintro e w' ⟨rfl, hA⟩
  exact ⟨rfl, Hx.acts H1 H3 H4 H5 H6 (put_ok H2 x key hx hh).sd hA⟩
theorem place_ids {n : Nat} {h : HV} (s : Sd n h) (x : Nat) (hh : hasV h x) : h.ids[placeV h x]? = some x := by
  obtain ⟨i, hi, _, hp, _⟩ := place_of s hh
  unfold placeV
  rw [hp]
  exact hi
theorem xremove {w0 w : World} {b n : Nat} {h : HV} (H : Hx w0 w b n h) (hn : n ≤ 4096) (x : Nat) (z : Int) (hz : z = (x : Int)) (hh : hasV h x) :
    Calls Tryz.prog 63 #[.pointer (some ⟨b, 0, none⟩), .int .i64 z] w fun e w' => e = .returned (.int .i64 0) ∧ Hx w0 w' b n (outV h (placeV h x)) := by
  subst hz
  obtain ⟨gk, gp, ck, cp, iv, H1, H2, H3, H4, H5, H6⟩ := H
  refine (hremoveOk H1 H2 hn x hh).mono ?_
  rintro e w' ⟨rfl, hA⟩
  exact ⟨rfl, Hx.acts H1 H3 H4 H5 H6 (out_ok H2 _ x (place_ids H2 x hh)).sd hA⟩
theorem xpop {w0 w : World} {b n : Nat} {h : HV} (H : Hx w0 w b n h) (hn : n ≤ 4096) (x : Nat) (hx : h.ids[0]? = some x) :
    Calls Tryz.prog 55 #[.pointer (some ⟨b, 0, none⟩)] w fun e w' => e = .returned (.tuple #[.int .i64 x, .int .i64 (h.ks.getD x 0), .bool true]) ∧ Hx w0 w' b n (outV h 0) := by
  obtain ⟨gk, gp, ck, cp, iv, H1, H2, H3, H4, H5, H6⟩ := H
  refine (hpopOk H1 H2 hn x hx).mono ?_
  rintro e w' ⟨rfl, hA⟩
  exact ⟨rfl, Hx.acts H1 H3 H4 H5 H6 (out_ok H2 _ x hx).sd hA⟩
theorem xpopNo {w0 w : World} {b n : Nat} {h : HV} (H : Hx w0 w b n h) (hn : 0 < n) (h0 : h.ids.length = 0) :
    Calls Tryz.prog 55 #[.pointer (some ⟨b, 0, none⟩)] w fun e w' => e = .returned (.tuple #[.int .i64 0, .int .i64 0, .bool false]) ∧ w = w' := by
  obtain ⟨gk, gp, ck, cp, iv, H1, _⟩ := H
  exact hpopNo H1 hn h0
theorem xlen {w0 w : World} {b n : Nat} {h : HV} (H : Hx w0 w b n h) (hn : 0 < n) :
    Calls Tryz.prog 50 #[.pointer (some ⟨b, 0, none⟩)] w fun e w' => e = .returned (.int .i64 h.ids.length) ∧ w = w' := by
  obtain ⟨gk, gp, ck, cp, iv, H1, _⟩ := H
  exact hlen H1 hn
def hv1 : HV := putV (newV 4) 3 5
def hv2 : HV := putV hv1 1 5
def hv3 : HV := putV hv2 2 9
def hv4 : HV := outV hv3 0
def hv5 : HV := changeV hv4 2 1
end Go.Proofs.YtabdipfpfbdghaaGreat
