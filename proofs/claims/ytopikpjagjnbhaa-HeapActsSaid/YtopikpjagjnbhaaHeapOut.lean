/- What goes out of a heap that was made; Change, Remove, Least, Pop, Key. -/
import Derived.Test.YtopikpjagjnbhaaHeap
namespace Go.Proofs.Ytopikpjagjnbhaa
open Go.RowKit
theorem out_world {W : World} {b gi gp gk ck base n ci cp : Nat} {s : HSt} {ks : List Int} (h : Sw W b gi gp base n ci cp s) (hk : Kw W b gk base n ck ks) (n5 : gp ≠ gk) (n6 : gk ≠ b) (last x : Nat) (hl : last ≤ s.1.length) (hx : x < n) :
    Kw ((W.setCell ⟨b, 0, none⟩ (.slice (some ⟨gi, 0, none⟩) last ci)).setCell ⟨gp, x, none⟩ (.int .i64 (-1))) b gk base n ck ks ∧ Sw ((W.setCell ⟨b, 0, none⟩ (.slice (some ⟨gi, 0, none⟩) last ci)).setCell ⟨gp, x, none⟩ (.int .i64 (-1))) b gi gp base n ci cp (s.1.take last, s.2.set x (-1)) ∧ Chg (fun k => k = b ∨ k = gp) W ((W.setCell ⟨b, 0, none⟩ (.slice (some ⟨gi, 0, none⟩) last ci)).setCell ⟨gp, x, none⟩ (.int .i64 (-1))) := by
  have n1 := h.n1
  have n2 := h.n2
  have n3 := h.n3
  obtain ⟨W2, hW2⟩ : ∃ W2, W2 = W.setCell ⟨b, 0, none⟩ (.slice (some ⟨gi, 0, none⟩) last ci) := ⟨_, rfl⟩
  have c1 : Chg (fun k => k = b) W W2 := by rw [hW2]; exact (Chg.refl _ _).setCell _ _ _ rfl
  have i2 : Box W2 b 0 (.slice (some ⟨gi, 0, none⟩) last ci) := by rw [hW2]; exact h.ib.set _
  have p2 : Box W2 b 2 (.slice (some ⟨gp, 0, none⟩) n cp) := by rw [hW2]; exact h.pb.set_other _ (by decide)
  have io2 := own_take (c1.own h.io (fun k e e2 => by cases e; exact n1 e2)) last hl
  have po2 := c1.own h.po (fun k e e2 => by cases e; exact n2 e2)
  have hk2 : Kw W2 b gk base n ck ks := ⟨by rw [hW2]; exact hk.kb.set_other _ (by decide), c1.own hk.ko (fun k e e2 => by cases e; exact n6 e2)⟩
  rw [← hW2]
  obtain ⟨W3, hW3⟩ : ∃ W3, W3 = W2.setCell ⟨gp, x, none⟩ (.int .i64 (-1)) := ⟨_, rfl⟩
  have c2 : Chg (fun k => k = gp) W2 W3 := by rw [hW3]; exact (Chg.refl _ _).setCell _ _ _ rfl
  have po3 := (rowGet po2 hx).2.2 (-1)
  rw [← hW3] at po3 ⊢
  have hll : (s.1.take last).length = last := by rw [List.length_take]; omega
  have i3 := i2.keep c2 (fun e => n2 e.symm)
  have p3 := p2.keep c2 (fun e => n2 e.symm)
  have io3 := c2.own io2 (fun k e e2 => by cases e; exact n3 e2)
  rw [show (nums .i64 (zs s.1)).take (last * 1) = nums .i64 (zs (s.1.take last)) by simp [nums, zs, List.map_take]] at io3
  refine ⟨hk2.keep c2 (fun e => n2 e.symm) (fun e => n5 e.symm), ⟨?_, p3, ?_, po3, n1, n2, n3⟩, (c1.mono (fun _ _ e => .inl e)).trans (c2.mono (fun _ _ e => .inr e))⟩
  · show Box W3 b 0 (.slice _ (s.1.take last).length ci)
    rw [hll]; exact i3
  · show W3.ownsRow base _ 1 (.slice _ (s.1.take last).length ci) (s.1.take last).length _
    rw [hll]; exact io3
set_option maxRecDepth 100000 in
set_option maxHeartbeats 8000000 in
/-- out. -/
theorem hout {w : World} {b gk gp base n ck cp : Nat} {iv : Value} {h : HV} (H : Hp w b gk gp base n ck cp iv h) (s : Sd n h) (hn : n ≤ 4096) (i : Nat) (z : Int) (hz : z = (i : Int)) (hi : i < h.ids.length) :
    Calls Try.prog 29 #[.pointer (some ⟨b, 0, none⟩), .int .i64 z] w fun e w' => e = .returned (.tuple #[]) ∧ Acts w w' b gk gp base n ck cp iv (outV h i) := by
  subst hz
  obtain ⟨gi, ci, rfl, HS, n4, hci⟩ := H.sw (by omega)
  have n5 := H.n5
  have n6 := H.n6
  have n1 := HS.n1
  have n2 := HS.n2
  have n3 := HS.n3
  have hlen : h.ids.length ≤ n := by
    exact ids_le s
  obtain ⟨last, hla⟩ : ∃ last, h.ids.length = last + 1 := ⟨h.ids.length - 1, by omega⟩
  have hid0 := getD_getH h.ids i hi
  obtain ⟨id, hidd⟩ : ∃ id, h.ids.getD i 0 = id := ⟨_, rfl⟩
  rw [hidd] at hid0
  have hidn := (s.bij.r i id hid0).1
  obtain ⟨g1, _, _⟩ := rowGet HS.io hi
  rw [zs_getD _ _ hi] at g1
  simp only [hidd] at g1
  have k1 := HS.ib.cell
  simp only [hla] at k1
  have HK := H.kw
  have fin : ∀ (W3 : World) (s3 : HSt), outV h i = ⟨s3.1, h.ks, s3.2⟩ → Sw W3 b gi gp base n ci cp s3 → Kw W3 b gk base n ck h.ks → Chg (fun k => k = b ∨ k = gi ∨ k = gp) w W3 → Acts w W3 b gk gp base n ck cp (.slice (some ⟨gi, 0, none⟩) (last + 1) ci) (outV h i) := by
    intro W3 s3 e1 t1 t2 t3
    refine ⟨⟨.slice (some ⟨gi, 0, none⟩) s3.1.length ci, by rw [e1]; exact Hp.of_sw t1 t2 n4 n5 n6, .inl rfl⟩, t3.mono (fun k _ e => ?_)⟩
    rcases e with e | e | e
    · exact .inl e
    · exact .inr (.inr (.inr (by rw [e]; rfl)))
    · exact .inr (.inr (.inl e))
  rw [hla] at hi hci hlen ⊢
  have hl40 : last < 4096 := by omega
  by_cases hc : i < last
  · have hll : last < h.ids.length := by omega
    obtain ⟨g2, _, _⟩ := rowGet HS.io hll
    rw [zs_getD _ _ hll] at g2
    have hx0 := getD_getH h.ids last hll
    obtain ⟨x, hx⟩ : ∃ x, h.ids.getD last 0 = x := ⟨_, rfl⟩
    rw [hx] at hx0
    simp only [hx] at g2
    have hxn := (s.bij.r last x hx0).1
    have HSE := Lib.hid (hset b gi gp base n ci cp (h.ids, h.pl) i x i w rfl HS (by show i < h.ids.length; omega) hxn)
    have HFX := Lib.hid (out_fix s i id hid0 (by omega))
    have HR : Hid (∀ W1, Sw W1 b gi gp base n ci cp (hputV (h.ids, h.pl) i x) → Chg (fun k => k = gi ∨ k = gp) w W1 →
        W1.cell? ⟨b, 0, none⟩ = some (.slice (some ⟨gi, 0, none⟩) (last + 1) ci) ∧ W1.frozen? ⟨b, 0, none⟩ = false ∧ W1.cell? ⟨b, 2, none⟩ = some (.slice (some ⟨gp, 0, none⟩) n cp) ∧ (∃ u, W1.cell? ⟨gp, id, none⟩ = some u) ∧ W1.frozen? ⟨gp, id, none⟩ = false ∧
        Calls Try.prog 31 #[.pointer (some ⟨b, 0, none⟩), .int .i64 i] ((W1.setCell ⟨b, 0, none⟩ (.slice (some ⟨gi, 0, none⟩) last ci)).setCell ⟨gp, id, none⟩ (.int .i64 (-1))) fun e w' => e = .returned (.tuple #[]) ∧ Acts w w' b gk gp base n ck cp (.slice (some ⟨gi, 0, none⟩) (last + 1) ci) (outV h i)) := by
      intro W1 hs1 hc1
      have hl1 : (hputV (h.ids, h.pl) i x).1.length = last + 1 := by show (h.ids.set i x).length = _; rw [List.length_set]; exact hla
      have a1 := hs1.ib.cell
      simp only [hl1] at a1
      obtain ⟨q1, q2, _⟩ := rowGet hs1.po hidn
      obtain ⟨hk2, t1, t2⟩ := out_world hs1 (HK.keep hc1 (by omega) (by omega)) n5 n6 last id (by rw [hl1]; omega) hidn
      refine ⟨a1, hs1.ib.free, hs1.pb.cell, ⟨_, q1⟩, q2, ?_⟩
      have hll1 : ((hputV (h.ids, h.pl) i x).1.take last).length = last := by rw [List.length_take, hl1]; omega
      have hfx := HFX.out
      simp only [hla, Nat.add_sub_cancel, hx] at hfx
      refine (hfix b gi gk gp base n ci ck cp h.ks _ i i _ rfl t1 hk2 n4 n5 n6 (by rw [hll1]; exact hc) hfx.1 hfx.2 (by rw [hll1]; omega)).mono ?_
      rintro e w' ⟨rfl, u1, u2⟩
      refine ⟨rfl, fin _ _ ?_ u1 (hk2.keep u2 (by omega) (by omega)) (((hc1.mono (fun _ _ e => .inr e)).trans (t2.mono (fun _ _ e => e.imp_right .inr))).trans (u2.mono (fun _ _ e => .inr e)))⟩
      unfold outV
      simp only [hla, Nat.add_sub_cancel, hx, hidd, if_pos hc]
      rfl
    clear fin HS H HK s HFX hla hlen hid0 hidd hx0 hx hll
    go_enter Try.func29, Try.ntmps29
    go_wp2_with (first
      | (go_at_call 44; (with_reducible refine HSE.out.mono ?_); rintro e w1 ⟨rfl, hs1, hc1⟩; obtain ⟨k2, k3, k4, ⟨u, k5⟩, k6, HX⟩ := HR.out _ hs1 hc1)
      | (go_at_call 31; (with_reducible refine HX.mono ?_); rintro e w2 ⟨rfl, hA⟩))
    exact bodyPost_end (v := .tuple #[]) (by simp [results, Try.results29, go_sem]) rfl ⟨rfl, hA⟩
  · obtain rfl : last = i := by omega
    obtain ⟨q1, q2, _⟩ := rowGet HS.po hidn
    obtain ⟨hk2, t1, t2⟩ := out_world HS HK n5 n6 last id (by show last ≤ h.ids.length; omega) hidn
    have k2 := HS.ib.free
    have k3 := HS.pb.cell
    have hA := fin _ (h.ids.take last, h.pl.set id (-1)) (by
      unfold outV
      simp only [hla, Nat.add_sub_cancel, hidd, if_neg hc]) t1 hk2 (t2.mono (fun _ _ e => e.imp_right .inr))
    have HA := Lib.hid hA
    clear hA fin HS H HK s hla hlen hid0 hidd t1 t2 hk2
    go_enter Try.func29, Try.ntmps29
    go_wp2
    exact bodyPost_end (v := .tuple #[]) (by simp [results, Try.results29, go_sem]) rfl ⟨rfl, HA.out⟩
/-- Remove, of one that is there. -/
def placeV (h : HV) (x : Nat) : Nat := (h.pl.getD x 0).toNat
theorem find_ok {n : Nat} {h : HV} (s : Sd n h) (x : Nat) (hh : hasV h x) (o : Int) : findV n h.pl x true o = 0 := by
  obtain ⟨i, _, _, hp, _⟩ := place_of s hh
  have hx := has_lt s hh
  unfold findV
  rw [if_neg (by omega), Int.toNat_natCast, hp, if_neg]
  have : ((i : Int) != -1) = true := by simp
  simp [this]
theorem find_no {n : Nat} {h : HV} (s : Sd n h) (x : Nat) (hx : x < n) (hh : ¬ hasV h x) (o : Int) : findV n h.pl x true o = o := by
  have h1 := has_iff s x hx
  have h2 : h.pl[x]? = some (-1) := Classical.not_not.1 (fun e => hh (h1.2 e))
  unfold findV
  rw [if_neg (by omega), Int.toNat_natCast, List.getD_eq_getElem?_getD, h2]
  rfl
theorem find_out {n : Nat} {h : HV} (z : Int) (hz : z < 0 ∨ (n : Int) ≤ z) (t : Bool) (o : Int) : findV n h.pl z t o = 8 := by
  unfold findV
  rw [if_pos hz]
theorem find_free {n : Nat} {h : HV} (s : Sd n h) (x : Nat) (hx : x < n) (hh : ¬ hasV h x) (o : Int) : findV n h.pl x false o = 0 := by
  have h1 := has_iff s x hx
  have h2 : h.pl[x]? = some (-1) := Classical.not_not.1 (fun e => hh (h1.2 e))
  unfold findV
  rw [if_neg (by omega), Int.toNat_natCast, List.getD_eq_getElem?_getD, h2]
  rfl
theorem find_taken {n : Nat} {h : HV} (s : Sd n h) (x : Nat) (hh : hasV h x) (o : Int) : findV n h.pl x false o = o := by
  obtain ⟨i, _, _, hp, _⟩ := place_of s hh
  have hx := has_lt s hh
  unfold findV
  rw [if_neg (by omega), Int.toNat_natCast, hp, if_pos]
  have : ((i : Int) != -1) = true := by simp
  simp [this]
set_option maxRecDepth 100000 in
set_option maxHeartbeats 4000000 in
theorem hremoveOk {w : World} {b gk gp base n ck cp : Nat} {iv : Value} {h : HV} (H : Hp w b gk gp base n ck cp iv h) (s : Sd n h) (hn : n ≤ 4096) (x : Nat) (hh : hasV h x) :
    Calls Try.prog 14 #[.pointer (some ⟨b, 0, none⟩), .int .i64 x] w fun e w' => e = .returned (.int .i64 0) ∧ Acts w w' b gk gp base n ck cp iv (outV h (placeV h x)) := by
  have hx := has_lt s hh
  have HF := Lib.hid (hfind H (by omega) x true 4)
  rw [find_ok s x hh] at HF
  obtain ⟨i, hi, _, hp, hil⟩ := place_of s hh
  have e1 : placeV h x = i := by unfold placeV; rw [hp]; rfl
  rw [e1]
  have HO := Lib.hid (hout H s hn i i rfl hil)
  have k1 := H.pb.cell
  obtain ⟨g1, _, _⟩ := rowGet H.po hx
  rw [hp] at g1
  clear H s hp e1 hil hi
  go_enter Try.func14, Try.ntmps14
  go_wp2_with (first
    | (go_at_call 27; (with_reducible refine HF.out.mono ?_); rintro e w1 ⟨rfl, rfl⟩)
    | (go_at_call 29; (with_reducible refine HO.out.mono ?_); rintro e w4 ⟨rfl, hA⟩))
  go_ret
  exact ⟨rfl, hA⟩
set_option maxHeartbeats 4000000 in
theorem hremoveNo {w : World} {b gk gp base n ck cp : Nat} {iv : Value} {h : HV} (H : Hp w b gk gp base n ck cp iv h) (hn : 0 < n) (id : Int) (hv : findV n h.pl id true 4 ≠ 0) :
    Calls Try.prog 14 #[.pointer (some ⟨b, 0, none⟩), .int .i64 id] w fun e w' => e = .returned (.int .i64 (findV n h.pl id true 4)) ∧ w = w' := by
  have HF := Lib.hid (hfind H hn id true 4)
  generalize findV n h.pl id true 4 = v at HF hv ⊢
  clear H
  go_enter Try.func14, Try.ntmps14
  go_wp2_with (go_at_call 27; (with_reducible refine HF.out.mono ?_); rintro e w1 ⟨rfl, rfl⟩)
  go_ret
  exact ⟨rfl, rfl⟩
set_option maxHeartbeats 4000000 in
theorem hchangeNo {w : World} {b gk gp base n ck cp : Nat} {iv : Value} {h : HV} (H : Hp w b gk gp base n ck cp iv h) (hn : 0 < n) (id key : Int) (hv : findV n h.pl id true 4 ≠ 0) :
    Calls Try.prog 13 #[.pointer (some ⟨b, 0, none⟩), .int .i64 id, .int .i64 key] w fun e w' => e = .returned (.int .i64 (findV n h.pl id true 4)) ∧ w = w' := by
  have HF := Lib.hid (hfind H hn id true 4)
  generalize findV n h.pl id true 4 = v at HF hv ⊢
  clear H
  go_enter Try.func13, Try.ntmps13
  go_wp2_with (go_at_call 27; (with_reducible refine HF.out.mono ?_); rintro e w1 ⟨rfl, rfl⟩)
  go_ret
  exact ⟨rfl, rfl⟩
theorem change_fix {n : Nat} {h : HV} (s : Sd n h) (id : Nat) (key : Int) (i : Nat) (hi : h.ids[i]? = some id) : FixI (h.ks.set id key) h.ids i :=
  fix_of_ord s.ord (fun _ _ hj hx => ks_set _ _ _ _ (fun e => hj (s.bij.inj (e ▸ hx) hi))) (get_lt hi)
set_option maxRecDepth 100000 in
set_option maxHeartbeats 4000000 in
theorem hchangeOk {w : World} {b gk gp base n ck cp : Nat} {iv : Value} {h : HV} (H : Hp w b gk gp base n ck cp iv h) (s : Sd n h) (hn : n ≤ 4096) (x : Nat) (key : Int) (hh : hasV h x) :
    Calls Try.prog 13 #[.pointer (some ⟨b, 0, none⟩), .int .i64 x, .int .i64 key] w fun e w' => e = .returned (.int .i64 0) ∧ Acts w w' b gk gp base n ck cp iv (changeV h x key) := by
  have hx := has_lt s hh
  have HF := Lib.hid (hfind H (by omega) x true 4)
  rw [find_ok s x hh] at HF
  obtain ⟨i, hi, _, hp, hil⟩ := place_of s hh
  obtain ⟨gi, ci, rfl, HS, n4, hci⟩ := H.sw (by omega)
  have n1 := HS.n1
  have n2 := HS.n2
  have n3 := HS.n3
  have n5 := H.n5
  have n6 := H.n6
  have hle := ids_le s
  have k1 := H.kw.kb.cell
  obtain ⟨g1, g2, g3⟩ := rowGet H.kw.ko hx
  obtain ⟨W1, hW1⟩ : ∃ W1, W1 = w.setCell ⟨gk, x, none⟩ (.int .i64 key) := ⟨_, rfl⟩
  have c1 : Chg (fun k => k = gk) w W1 := by rw [hW1]; exact (Chg.refl _ _).setCell _ _ _ rfl
  have t1 : Sw W1 b gi gp base n ci cp (h.ids, h.pl) := ⟨HS.ib.keep c1 (by omega), HS.pb.keep c1 (by omega), c1.own HS.io (fun k e e2 => by cases e; exact n4 e2), c1.own HS.po (fun k e e2 => by cases e; exact n5 e2), n1, n2, n3⟩
  have o1 := g3 key
  rw [← hW1] at o1
  have t2 : Kw W1 b gk base n ck (h.ks.set x key) := ⟨H.kw.kb.keep c1 (by omega), o1⟩
  have HX := Lib.hid (hfix b gi gk gp base n ci ck cp (h.ks.set x key) (h.ids, h.pl) i i W1 rfl t1 t2 n4 n5 n6 hil s.bij (change_fix s x key i hi) (by show h.ids.length ≤ _; omega))
  have HR : Hid (∀ w', Sw w' b gi gp base n ci cp (fixV (h.ks.set x key) i (h.ids, h.pl)) → Chg (fun k => k = gi ∨ k = gp) W1 w' → Acts w w' b gk gp base n ck cp (.slice (some ⟨gi, 0, none⟩) h.ids.length ci) (changeV h x key)) := by
    intro w' u1 u2
    refine ⟨⟨.slice (some ⟨gi, 0, none⟩) (fixV (h.ks.set x key) i (h.ids, h.pl)).1.length ci, ?_, .inl rfl⟩, (c1.mono (fun k _ e => .inr (.inl e))).trans (u2.mono (fun k _ e => ?_))⟩
    · have e1 : changeV h x key = ⟨(fixV (h.ks.set x key) i (h.ids, h.pl)).1, h.ks.set x key, (fixV (h.ks.set x key) i (h.ids, h.pl)).2⟩ := by
        unfold changeV
        rw [hp]
        rfl
      rw [e1]
      exact Hp.of_sw u1 (t2.keep u2 (by omega) (by omega)) n4 n5 n6
    · rcases e with e | e
      · exact .inr (.inr (.inr (by rw [e]; rfl)))
      · exact .inr (.inr (.inl e))
  have k2 := t1.pb.cell
  obtain ⟨q1, _, _⟩ := rowGet t1.po hx
  simp only [hp] at q1
  subst hW1
  clear H s hp hil hi t1 t2 o1 g3 c1 HS hle
  go_enter Try.func13, Try.ntmps13
  go_wp2_with (first
    | (go_at_call 27; (with_reducible refine HF.out.mono ?_); rintro e w1 ⟨rfl, rfl⟩)
    | (go_at_call 31; (with_reducible refine HX.out.mono ?_); rintro e w4 ⟨rfl, hA, hB⟩))
  go_ret
  exact ⟨rfl, HR.out _ hA hB⟩
set_option maxHeartbeats 4000000 in
theorem hleastNo {w : World} {b gk gp base n ck cp : Nat} {iv : Value} {h : HV} (H : Hp w b gk gp base n ck cp iv h) (hn : 0 < n) (h0 : h.ids.length = 0) :
    Calls Try.prog 21 #[.pointer (some ⟨b, 0, none⟩)] w fun e w' => e = .returned (.tuple #[.int .i64 0, .int .i64 0, .bool false]) ∧ w = w' := by
  have HL := Lib.hid (hlen H hn)
  rw [h0] at HL
  clear H
  go_enter Try.func21, Try.ntmps21
  go_wp2_with (go_at_call 12; (with_reducible refine HL.out.mono ?_); rintro e w1 ⟨rfl, rfl⟩)
  go_ret3
  exact ⟨rfl, rfl⟩
set_option maxRecDepth 100000 in
set_option maxHeartbeats 4000000 in
theorem hleastOk {w : World} {b gk gp base n ck cp : Nat} {iv : Value} {h : HV} (H : Hp w b gk gp base n ck cp iv h) (s : Sd n h) (x : Nat) (hx : h.ids[0]? = some x) :
    Calls Try.prog 21 #[.pointer (some ⟨b, 0, none⟩)] w fun e w' => e = .returned (.tuple #[.int .i64 x, .int .i64 (h.ks.getD x 0), .bool true]) ∧ Below w.heap.size w w' := by
  have h0 := get_lt hx
  have hxn := (s.bij.r 0 x hx).1
  have HL := Lib.hid (hlen H (by omega))
  obtain ⟨gi, ci, rfl, HS, n4, hci⟩ := H.sw (by omega)
  obtain ⟨g1, _, _⟩ := rowGet HS.io h0
  rw [zs_getD _ _ h0] at g1
  simp only [get_getD hx] at g1
  obtain ⟨q1, _, _⟩ := rowGet H.kw.ko hxn
  have HB := Lib.hid HS.ib
  have HK := Lib.hid H.kw.kb
  have HG := Lib.hid g1
  have HQ := Lib.hid q1
  generalize h.ks.getD x 0 = key at HQ ⊢
  obtain ⟨len, hln⟩ : ∃ len, h.ids.length = len := ⟨_, rfl⟩
  simp only [hln] at HB HL h0
  have hz : ¬ ((len : Int) = 0) := by omega
  have hle := ids_le s
  rw [hln] at hle hci
  clear H HS g1 q1 s hln
  go_enter Try.func21, Try.ntmps21
  go_wp2_with (go_at_call 12; (with_reducible refine HL.out.mono ?_); rintro e w1 ⟨rfl, rfl⟩)
  obtain ⟨T, hT⟩ : ∃ T : Nat → Fact, ∀ t_, T t_ = ([Fact.eq (.pointer (some ⟨b, 0, none⟩)), Fact.eq (.pointer (some ⟨b, 0, none⟩)), Fact.eq (.pointer (some ⟨b, 0, none⟩)), Fact.eq (.slice (some ⟨gi, 0, none⟩) len ci), Fact.eq (.pointer (some ⟨gi, 0, none⟩)), Fact.eq (.int .i64 x), Fact.eq (.pointer (some ⟨b, 0, none⟩)), Fact.eq (.pointer (some ⟨b, 0, none⟩)), Fact.eq (.pointer (some ⟨b, 1, none⟩)), Fact.eq (.slice (some ⟨gk, 0, none⟩) n ck), Fact.eq (.pointer (some ⟨b, 0, none⟩)), Fact.eq (.pointer (some ⟨b, 0, none⟩)), Fact.eq (.pointer (some ⟨b, 0, none⟩)), Fact.eq (.slice (some ⟨gi, 0, none⟩) len ci), Fact.eq (.pointer (some ⟨gi, 0, none⟩)), Fact.eq (.int .i64 x), Fact.eq (.pointer (some ⟨gk, x, none⟩)), Fact.eq (.int .i64 key), Fact.eq (.int .i64 x), Fact.eq (.int .i64 key), Fact.eq (.bool true)] : List (Fact)).getD t_ Fact.any := ⟨_, fun _ => rfl⟩
  refine region_tab [(0, 8), (1, 9), (2, 10), (3, 11), (4, 12), (5, 13), (6, 14), (7, 15), (8, 16), (9, 17), (10, 18), (11, 19), (12, 20), (13, 21), (14, 22), (15, 23), (16, 24), (17, 25), (18, 2), (19, 3), (20, 4)] T (by kernel_rfl) (by kernel_rfl) (by kernel_rfl) (by kernel_rfl) (by kernel_rfl) ?_ ?_
  · skip
    refine stepsAll_cons (k := 0) ?_ ?_
    · intro fa fx fW hF fB hE K fK
      have ev0 : fa.tmps[0]?.getD undef = .pointer (some ⟨b, 0, none⟩) := hF.eo 0 (by kernel_rfl)
      refine wpOp_val rfl (wanted_none rfl) ?_ (fK (.pointer (some ⟨b, 0, none⟩)) fW (Below.refl _ _) (by rw [hT]; exact rfl))
      clear fK hE hF
      go_simp
    refine stepsAll_cons (k := 1) ?_ ?_
    · intro fa fx fW hF fB hE K fK
      have q0 : fx 0 = .pointer (some ⟨b, 0, none⟩) := by have q := hE ⟨0, .data⟩ (by simp) rfl; rw [hT] at q; exact q
      have ev8 : fa.tmps[8]?.getD undef = .pointer (some ⟨b, 0, none⟩) := (hF.ev 0 8 (by kernel_rfl)).trans q0
      refine wpOp_val rfl (wanted_none rfl) ?_ (fK (.pointer (some ⟨b, 0, none⟩)) fW (Below.refl _ _) (by rw [hT]; exact rfl))
      clear fK hE hF
      go_simp
    refine stepsAll_cons (k := 2) ?_ ?_
    · intro fa fx fW hF fB hE K fK
      have q1 : fx 1 = .pointer (some ⟨b, 0, none⟩) := by have q := hE ⟨1, .data⟩ (by simp) rfl; rw [hT] at q; exact q
      have ev9 : fa.tmps[9]?.getD undef = .pointer (some ⟨b, 0, none⟩) := (hF.ev 1 9 (by kernel_rfl)).trans q1
      refine wpOp_val rfl (wanted_none rfl) ?_ (fK (.pointer (some ⟨b, 0, none⟩)) fW (Below.refl _ _) (by rw [hT]; exact rfl))
      clear fK hE hF
      go_simp
    refine stepsAll_cons (k := 3) ?_ ?_
    · intro fa fx fW hF fB hE K fK
      have q2 : fx 2 = .pointer (some ⟨b, 0, none⟩) := by have q := hE ⟨2, .data⟩ (by simp) rfl; rw [hT] at q; exact q
      have ev10 : fa.tmps[10]?.getD undef = .pointer (some ⟨b, 0, none⟩) := (hF.ev 2 10 (by kernel_rfl)).trans q2
      have k0 := (HB.out.below fB).cell
      refine wpOp_val rfl (wanted_none rfl) ?_ (fK (.slice (some ⟨gi, 0, none⟩) len ci) fW (Below.refl _ _) (by rw [hT]; exact rfl))
      clear fK hE hF
      go_simp
    refine stepsAll_cons (k := 4) ?_ ?_
    · intro fa fx fW hF fB hE K fK
      have q3 : fx 3 = .slice (some ⟨gi, 0, none⟩) len ci := by have q := hE ⟨3, .data⟩ (by simp) rfl; rw [hT] at q; exact q
      have ev11 : fa.tmps[11]?.getD undef = .slice (some ⟨gi, 0, none⟩) len ci := (hF.ev 3 11 (by kernel_rfl)).trans q3
      refine wpOp_val rfl (wanted_none rfl) ?_ (fK (.pointer (some ⟨gi, 0, none⟩)) fW (Below.refl _ _) (by rw [hT]; exact rfl))
      clear fK hE hF
      go_simp
    refine stepsAll_cons (k := 5) ?_ ?_
    · intro fa fx fW hF fB hE K fK
      have q4 : fx 4 = .pointer (some ⟨gi, 0, none⟩) := by have q := hE ⟨4, .data⟩ (by simp) rfl; rw [hT] at q; exact q
      have ev12 : fa.tmps[12]?.getD undef = .pointer (some ⟨gi, 0, none⟩) := (hF.ev 4 12 (by kernel_rfl)).trans q4
      have k0 := cell_below fB HG.out
      refine wpOp_val rfl (wanted_none rfl) ?_ (fK (.int .i64 x) fW (Below.refl _ _) (by rw [hT]; exact rfl))
      clear fK hE hF
      go_simp
    refine stepsAll_cons (k := 6) ?_ ?_
    · intro fa fx fW hF fB hE K fK
      have ev0 : fa.tmps[0]?.getD undef = .pointer (some ⟨b, 0, none⟩) := hF.eo 0 (by kernel_rfl)
      refine wpOp_val rfl (wanted_none rfl) ?_ (fK (.pointer (some ⟨b, 0, none⟩)) fW (Below.refl _ _) (by rw [hT]; exact rfl))
      clear fK hE hF
      go_simp
    refine stepsAll_cons (k := 7) ?_ ?_
    · intro fa fx fW hF fB hE K fK
      have q6 : fx 6 = .pointer (some ⟨b, 0, none⟩) := by have q := hE ⟨6, .data⟩ (by simp) rfl; rw [hT] at q; exact q
      have ev14 : fa.tmps[14]?.getD undef = .pointer (some ⟨b, 0, none⟩) := (hF.ev 6 14 (by kernel_rfl)).trans q6
      refine wpOp_val rfl (wanted_none rfl) ?_ (fK (.pointer (some ⟨b, 0, none⟩)) fW (Below.refl _ _) (by rw [hT]; exact rfl))
      clear fK hE hF
      go_simp
    refine stepsAll_cons (k := 8) ?_ ?_
    · intro fa fx fW hF fB hE K fK
      have q7 : fx 7 = .pointer (some ⟨b, 0, none⟩) := by have q := hE ⟨7, .data⟩ (by simp) rfl; rw [hT] at q; exact q
      have ev15 : fa.tmps[15]?.getD undef = .pointer (some ⟨b, 0, none⟩) := (hF.ev 7 15 (by kernel_rfl)).trans q7
      refine wpOp_val rfl (wanted_none rfl) ?_ (fK (.pointer (some ⟨b, 1, none⟩)) fW (Below.refl _ _) (by rw [hT]; exact rfl))
      clear fK hE hF
      go_simp
    refine stepsAll_cons (k := 9) ?_ ?_
    · intro fa fx fW hF fB hE K fK
      have q8 : fx 8 = .pointer (some ⟨b, 1, none⟩) := by have q := hE ⟨8, .data⟩ (by simp) rfl; rw [hT] at q; exact q
      have ev16 : fa.tmps[16]?.getD undef = .pointer (some ⟨b, 1, none⟩) := (hF.ev 8 16 (by kernel_rfl)).trans q8
      have k0 := (HK.out.below fB).cell
      refine wpOp_val rfl (wanted_none rfl) ?_ (fK (.slice (some ⟨gk, 0, none⟩) n ck) fW (Below.refl _ _) (by rw [hT]; exact rfl))
      clear fK hE hF
      go_simp
    refine stepsAll_cons (k := 10) ?_ ?_
    · intro fa fx fW hF fB hE K fK
      have ev0 : fa.tmps[0]?.getD undef = .pointer (some ⟨b, 0, none⟩) := hF.eo 0 (by kernel_rfl)
      refine wpOp_val rfl (wanted_none rfl) ?_ (fK (.pointer (some ⟨b, 0, none⟩)) fW (Below.refl _ _) (by rw [hT]; exact rfl))
      clear fK hE hF
      go_simp
    refine stepsAll_cons (k := 11) ?_ ?_
    · intro fa fx fW hF fB hE K fK
      have q10 : fx 10 = .pointer (some ⟨b, 0, none⟩) := by have q := hE ⟨10, .data⟩ (by simp) rfl; rw [hT] at q; exact q
      have ev18 : fa.tmps[18]?.getD undef = .pointer (some ⟨b, 0, none⟩) := (hF.ev 10 18 (by kernel_rfl)).trans q10
      refine wpOp_val rfl (wanted_none rfl) ?_ (fK (.pointer (some ⟨b, 0, none⟩)) fW (Below.refl _ _) (by rw [hT]; exact rfl))
      clear fK hE hF
      go_simp
    refine stepsAll_cons (k := 12) ?_ ?_
    · intro fa fx fW hF fB hE K fK
      have q11 : fx 11 = .pointer (some ⟨b, 0, none⟩) := by have q := hE ⟨11, .data⟩ (by simp) rfl; rw [hT] at q; exact q
      have ev19 : fa.tmps[19]?.getD undef = .pointer (some ⟨b, 0, none⟩) := (hF.ev 11 19 (by kernel_rfl)).trans q11
      refine wpOp_val rfl (wanted_none rfl) ?_ (fK (.pointer (some ⟨b, 0, none⟩)) fW (Below.refl _ _) (by rw [hT]; exact rfl))
      clear fK hE hF
      go_simp
    refine stepsAll_cons (k := 13) ?_ ?_
    · intro fa fx fW hF fB hE K fK
      have q12 : fx 12 = .pointer (some ⟨b, 0, none⟩) := by have q := hE ⟨12, .data⟩ (by simp) rfl; rw [hT] at q; exact q
      have ev20 : fa.tmps[20]?.getD undef = .pointer (some ⟨b, 0, none⟩) := (hF.ev 12 20 (by kernel_rfl)).trans q12
      have k0 := (HB.out.below fB).cell
      refine wpOp_val rfl (wanted_none rfl) ?_ (fK (.slice (some ⟨gi, 0, none⟩) len ci) fW (Below.refl _ _) (by rw [hT]; exact rfl))
      clear fK hE hF
      go_simp
    refine stepsAll_cons (k := 14) ?_ ?_
    · intro fa fx fW hF fB hE K fK
      have q13 : fx 13 = .slice (some ⟨gi, 0, none⟩) len ci := by have q := hE ⟨13, .data⟩ (by simp) rfl; rw [hT] at q; exact q
      have ev21 : fa.tmps[21]?.getD undef = .slice (some ⟨gi, 0, none⟩) len ci := (hF.ev 13 21 (by kernel_rfl)).trans q13
      refine wpOp_val rfl (wanted_none rfl) ?_ (fK (.pointer (some ⟨gi, 0, none⟩)) fW (Below.refl _ _) (by rw [hT]; exact rfl))
      clear fK hE hF
      go_simp
    refine stepsAll_cons (k := 15) ?_ ?_
    · intro fa fx fW hF fB hE K fK
      have q14 : fx 14 = .pointer (some ⟨gi, 0, none⟩) := by have q := hE ⟨14, .data⟩ (by simp) rfl; rw [hT] at q; exact q
      have ev22 : fa.tmps[22]?.getD undef = .pointer (some ⟨gi, 0, none⟩) := (hF.ev 14 22 (by kernel_rfl)).trans q14
      have k0 := cell_below fB HG.out
      refine wpOp_val rfl (wanted_none rfl) ?_ (fK (.int .i64 x) fW (Below.refl _ _) (by rw [hT]; exact rfl))
      clear fK hE hF
      go_simp
    refine stepsAll_cons (k := 16) ?_ ?_
    · intro fa fx fW hF fB hE K fK
      have q9 : fx 9 = .slice (some ⟨gk, 0, none⟩) n ck := by have q := hE ⟨9, .data⟩ (by simp) rfl; rw [hT] at q; exact q
      have q15 : fx 15 = .int .i64 x := by have q := hE ⟨15, .data⟩ (by simp) rfl; rw [hT] at q; exact q
      have ev17 : fa.tmps[17]?.getD undef = .slice (some ⟨gk, 0, none⟩) n ck := (hF.ev 9 17 (by kernel_rfl)).trans q9
      have ev23 : fa.tmps[23]?.getD undef = .int .i64 x := (hF.ev 15 23 (by kernel_rfl)).trans q15
      refine wpOp_val rfl (wanted_none rfl) ?_ (fK (.pointer (some ⟨gk, x, none⟩)) fW (Below.refl _ _) (by rw [hT]; exact rfl))
      clear fK hE hF
      go_simp
    refine stepsAll_cons (k := 17) ?_ ?_
    · intro fa fx fW hF fB hE K fK
      have q16 : fx 16 = .pointer (some ⟨gk, x, none⟩) := by have q := hE ⟨16, .data⟩ (by simp) rfl; rw [hT] at q; exact q
      have ev24 : fa.tmps[24]?.getD undef = .pointer (some ⟨gk, x, none⟩) := (hF.ev 16 24 (by kernel_rfl)).trans q16
      have k0 := cell_below fB HQ.out
      refine wpOp_val rfl (wanted_none rfl) ?_ (fK (.int .i64 key) fW (Below.refl _ _) (by rw [hT]; exact rfl))
      clear fK hE hF
      go_simp
    refine stepsAll_cons (k := 18) ?_ ?_
    · intro fa fx fW hF fB hE K fK
      have q5 : fx 5 = .int .i64 x := by have q := hE ⟨5, .data⟩ (by simp) rfl; rw [hT] at q; exact q
      have ev13 : fa.tmps[13]?.getD undef = .int .i64 x := (hF.ev 5 13 (by kernel_rfl)).trans q5
      refine wpOp_val rfl (wanted_none rfl) ?_ (fK (.int .i64 x) fW (Below.refl _ _) (by rw [hT]; exact rfl))
      clear fK hE hF
      go_simp
    refine stepsAll_cons (k := 19) ?_ ?_
    · intro fa fx fW hF fB hE K fK
      have q17 : fx 17 = .int .i64 key := by have q := hE ⟨17, .data⟩ (by simp) rfl; rw [hT] at q; exact q
      have ev25 : fa.tmps[25]?.getD undef = .int .i64 key := (hF.ev 17 25 (by kernel_rfl)).trans q17
      refine wpOp_val rfl (wanted_none rfl) ?_ (fK (.int .i64 key) fW (Below.refl _ _) (by rw [hT]; exact rfl))
      clear fK hE hF
      go_simp
    refine stepsAll_cons (k := 20) ?_ ?_
    · intro fa fx fW hF fB hE K fK
      refine wpOp_val rfl (wanted_none rfl) ?_ (fK (.bool true) fW (Below.refl _ _) (by rw [hT]; exact rfl))
      clear fK hE hF
      go_simp
    exact stepsAll_nil
  intro fa fx fW hF fB hx
  have q18 : fx 18 = .int .i64 x := by have q := hx 18 (by decide); rw [hT] at q; exact q
  have ev2 : fa.tmps[2]?.getD undef = .int .i64 x := (hF.ev 18 2 (by kernel_rfl)).trans q18
  have q19 : fx 19 = .int .i64 key := by have q := hx 19 (by decide); rw [hT] at q; exact q
  have ev3 : fa.tmps[3]?.getD undef = .int .i64 key := (hF.ev 19 3 (by kernel_rfl)).trans q19
  have q20 : fx 20 = .bool true := by have q := hx 20 (by decide); rw [hT] at q; exact q
  have ev4 : fa.tmps[4]?.getD undef = .bool true := (hF.ev 20 4 (by kernel_rfl)).trans q20
  rw [hF.eq]
  clear hF hx
  simp only [putAll, Act.put, List.setIfInBounds_toArray, List.set_cons_zero, List.set_cons_succ, q18, q19, q20]
  go_wp2
  go_ret3
  exact ⟨rfl, fB⟩
set_option maxHeartbeats 4000000 in
theorem hpopNo {w : World} {b gk gp base n ck cp : Nat} {iv : Value} {h : HV} (H : Hp w b gk gp base n ck cp iv h) (hn : 0 < n) (h0 : h.ids.length = 0) :
    Calls Try.prog 11 #[.pointer (some ⟨b, 0, none⟩)] w fun e w' => e = .returned (.tuple #[.int .i64 0, .int .i64 0, .bool false]) ∧ w = w' := by
  have HL := Lib.hid (hleastNo H hn h0)
  clear H
  go_enter Try.func11, Try.ntmps11
  go_wp2_with (go_at_call 21; (with_reducible refine HL.out.mono ?_); rintro e w1 ⟨rfl, rfl⟩)
  go_ret3
  exact ⟨rfl, rfl⟩
theorem Acts.after {w w1 w' : World} {b gk gp base n ck cp : Nat} {iv : Value} {h : HV} (hb : Below w.heap.size w w1) (A : Acts w1 w' b gk gp base n ck cp iv h) : Acts w w' b gk gp base n ck cp iv h := by
  obtain ⟨⟨iv', h1, h2⟩, h3⟩ := A
  have := (Chg.of_below (S := HS b gk gp iv) hb).size
  exact ⟨⟨iv', h1, h2.imp_right (fun ⟨k, e, hk⟩ => ⟨k, e, by omega⟩)⟩, (Chg.of_below hb).trans h3⟩
set_option maxRecDepth 100000 in
set_option maxHeartbeats 4000000 in
theorem hpopOk {w : World} {b gk gp base n ck cp : Nat} {iv : Value} {h : HV} (H : Hp w b gk gp base n ck cp iv h) (s : Sd n h) (hn : n ≤ 4096) (x : Nat) (hx : h.ids[0]? = some x) :
    Calls Try.prog 11 #[.pointer (some ⟨b, 0, none⟩)] w fun e w' => e = .returned (.tuple #[.int .i64 x, .int .i64 (h.ks.getD x 0), .bool true]) ∧ Acts w w' b gk gp base n ck cp iv (outV h 0) := by
  have HL := Lib.hid (hleastOk H s x hx)
  have HO := Lib.hid (fun W (hb : Below w.heap.size w W) => hout (H.below hb) s hn 0 0 rfl (get_lt hx))
  generalize h.ks.getD x 0 = key at HL ⊢
  clear H s hx
  go_enter Try.func11, Try.ntmps11
  go_wp2_with (first
    | (go_at_call 21; (with_reducible refine HL.out.mono ?_); rintro e w1 ⟨rfl, hb1⟩)
    | (go_at_call 29; (with_reducible refine (HO.out _ hb1).mono ?_); rintro e w4 ⟨rfl, hA⟩))
  go_ret3
  exact ⟨rfl, hA.after hb1⟩
set_option maxHeartbeats 4000000 in
theorem hkeyNo {w : World} {b gk gp base n ck cp : Nat} {iv : Value} {h : HV} (H : Hp w b gk gp base n ck cp iv h) (hn : 0 < n) (id : Int) (hv : findV n h.pl id true 4 ≠ 0) :
    Calls Try.prog 15 #[.pointer (some ⟨b, 0, none⟩), .int .i64 id] w fun e w' => e = .returned (.tuple #[.int .i64 0, .bool false]) ∧ w = w' := by
  have HF := Lib.hid (hfind H hn id true 4)
  generalize findV n h.pl id true 4 = v at HF hv
  clear H
  go_enter Try.func15, Try.ntmps15
  go_wp2_with (go_at_call 27; (with_reducible refine HF.out.mono ?_); rintro e w1 ⟨rfl, rfl⟩)
  go_ret2
  exact ⟨rfl, rfl⟩
set_option maxHeartbeats 4000000 in
theorem hkeyOk {w : World} {b gk gp base n ck cp : Nat} {iv : Value} {h : HV} (H : Hp w b gk gp base n ck cp iv h) (s : Sd n h) (x : Nat) (hh : hasV h x) :
    Calls Try.prog 15 #[.pointer (some ⟨b, 0, none⟩), .int .i64 x] w fun e w' => e = .returned (.tuple #[.int .i64 (h.ks.getD x 0), .bool true]) ∧ w = w' := by
  have hx := has_lt s hh
  have HF := Lib.hid (hfind H (by omega) x true 4)
  rw [find_ok s x hh] at HF
  have k1 := H.kw.kb.cell
  obtain ⟨q1, _, _⟩ := rowGet H.kw.ko hx
  generalize h.ks.getD x 0 = key at q1 ⊢
  clear H s hh
  go_enter Try.func15, Try.ntmps15
  go_wp2_with (go_at_call 27; (with_reducible refine HF.out.mono ?_); rintro e w1 ⟨rfl, rfl⟩)
  go_ret2
  exact ⟨rfl, rfl⟩
end Go.Proofs.Ytopikpjagjnbhaa
