/- A heap that was made: fix, find, Put, Change, Remove, Least, Pop, Key, Len. -/
import Derived.Test.YtopikpjagjnbhaaHeapDown
import Derived.Test.YtopikpjagjnbhaaDelete
namespace Go.Proofs.Ytopikpjagjnbhaa
open Go.RowKit
theorem own_some {w : World} {base sz n : Nat} {e : TypeId} {v : Value} {xs : List Value} (h : w.ownsRow base e sz v n xs) (hn : 0 < n) (hs : 0 < sz) : ∃ g cap, v = .slice (some ⟨g, 0, none⟩) n cap ∧ base ≤ g ∧ n ≤ cap ∧ cap ≤ maxLen := by
  have hl := h.1
  rcases h.2 with ⟨rfl, rfl⟩ | ⟨g, cap, cur, rfl, hb, hg, hnc, hcm, _⟩
  · have := Nat.mul_pos hn hs
    simp at hl
    omega
  · exact ⟨g, cap, rfl, hb, hnc, hcm⟩
theorem InR.of_bij {n : Nat} {s : HSt} (h : Bij n s.1 s.2) : InR n s := by
  intro x hx
  obtain ⟨i, hi, he⟩ := List.getElem_of_mem hx
  exact (h.r i x (by rw [List.getElem?_eq_getElem hi, he])).1
set_option maxRecDepth 100000 in
set_option maxHeartbeats 8000000 in
/-- fix. -/
theorem hfix (b gi gk gp base n ci ck cp : Nat) (ks : List Int) (s : HSt) (i : Nat) (z : Int) (w : World) (hz : z = (i : Int)) (h : Sw w b gi gp base n ci cp s) (hk : Kw w b gk base n ck ks) (n4 : gi ≠ gk) (n5 : gp ≠ gk) (n6 : gk ≠ b) (hi : i < s.1.length) (hb : Bij n s.1 s.2) (hF : FixI ks s.1 i) (hn : s.1.length ≤ 4096) :
    Calls Try.prog 31 #[.pointer (some ⟨b, 0, none⟩), .int .i64 z] w fun e w' => e = .returned (.tuple #[]) ∧ Sw w' b gi gp base n ci cp (fixV ks i s) ∧ Chg (fun k => k = gi ∨ k = gp) w w' := by
  subst hz
  have HUP := Lib.hid (hup b gi gk gp base n ci ck cp ks s i w h hk n4 n5 hi (InR.of_bij hb) hn)
  obtain ⟨g1, _, _⟩ := rowGet h.io hi
  rw [zs_getD _ _ hi] at g1
  have k1 := h.ib.cell
  have hid0 := getD_getH s.1 i hi
  obtain ⟨id, hidd⟩ : ∃ id, s.1.getD i 0 = id := ⟨_, rfl⟩
  have HR : Hid (∃ (k : Nat) (r : HSt), upV ks id i i s = r ∧ fixV ks i s = downV ks id r.1.length k r ∧ r.1.getD k 0 = id ∧ r.2.getD id 0 = (k : Int) ∧ k < r.1.length ∧ Bij n r.1 r.2 ∧ r.1.length = s.1.length ∧ id < n) := by
    rw [hidd] at hid0
    have e1 : s.1.set i id = s.1 := set_same _ _ _ hid0
    have e2 : s.2.set id (i : Int) = s.2 := set_same _ _ _ (hb.r i id hid0).2
    have hu := up_ok n ks id i i s (Nat.le_refl _) hi (by rw [e1, e2]; exact hb) (by rw [e1]; exact hF)
    obtain ⟨k, hk, hrk, _⟩ := hu.there
    have hp := (hu.bij.r k id hrk).2
    have hg : (upV ks id i i s).2.getD id 0 = (k : Int) := by rw [List.getD_eq_getElem?_getD, hp]; rfl
    refine ⟨k, _, rfl, ?_, get_getD hrk, hg, by rw [hu.len]; exact hk, hu.bij, hu.len, (hb.r i id hid0).1⟩
    unfold fixV
    simp only
    rw [hidd, hg]
    rfl
  rw [hidd] at HUP g1
  obtain ⟨k, r, hr1, hr2, hr3, hr4, hr5, hr6, hr7, hr8⟩ := HR.out
  rw [hr1] at HUP
  rw [hr2]
  have HDN := Lib.hid (fun (W : World) (hs : Sw W b gi gp base n ci cp r) (hc : Chg (fun k => k = gi ∨ k = gp) w W) => hdown b gi gk gp base n ci ck cp ks r k k W rfl hs (hk.keep hc (by have := h.n1; have := h.n2; omega) (by omega)) n4 n5 hr5 (InR.of_bij hr6) (by rw [hr7]; exact hn))
  rw [hr3] at HDN
  have HG : Hid (∀ W, Sw W b gi gp base n ci cp r → W.cell? ⟨b, 2, none⟩ = some (.slice (some ⟨gp, 0, none⟩) n cp) ∧ W.cell? ⟨gp, id, none⟩ = some (.int .i64 (k : Int))) := fun W hs => ⟨hs.pb.cell, by have := (rowGet hs.po hr8).1; rw [hr4] at this; exact this⟩
  have hid8 := hr8
  clear HR hr1 hr2 hr3 hr4 hr5 hr6 hr7 hr8 hb hF h hk hid0 hidd n6
  go_enter Try.func31, Try.ntmps31
  go_wp2_with (first
    | (go_at_call 28; (with_reducible refine HUP.out.mono ?_); rintro e w1 ⟨rfl, hs1, hc1⟩; obtain ⟨k2, k3⟩ := HG.out _ hs1)
    | (go_at_call 45; (with_reducible refine (HDN.out _ hs1 hc1).mono ?_); rintro e w2 ⟨rfl, hs2, hc2⟩))
  exact bodyPost_end (v := .tuple #[]) (by simp [results, Try.results31, go_sem]) rfl ⟨rfl, hs2, hc1.trans hc2⟩
/-- A heap. -/
structure Hp (w : World) (b gk gp base n ck cp : Nat) (iv : Value) (h : HV) : Prop where
  ib : Box w b 0 iv
  io : w.ownsRow base 3 1 iv h.ids.length (nums .i64 (zs h.ids))
  kw : Kw w b gk base n ck h.ks
  pb : Box w b 2 (.slice (some ⟨gp, 0, none⟩) n cp)
  po : w.ownsRow base 3 1 (.slice (some ⟨gp, 0, none⟩) n cp) n (nums .i64 h.pl)
  n2 : gp ≠ b
  n5 : gp ≠ gk
  n6 : gk ≠ b
  ni : ∀ k, iv.ownBlock = some k → k ≠ b ∧ k ≠ gk ∧ k ≠ gp
theorem Hp.below {w w1 : World} {b gk gp base n ck cp : Nat} {iv : Value} {h : HV} (H : Hp w b gk gp base n ck cp iv h) (hb : Below w.heap.size w w1) : Hp w1 b gk gp base n ck cp iv h :=
  ⟨H.ib.below hb, own_below H.io hb, H.kw.below hb, H.pb.below hb, own_below H.po hb, H.n2, H.n5, H.n6, H.ni⟩
theorem Hp.keep {S : Nat → Prop} {w w1 : World} {b gk gp base n ck cp : Nat} {iv : Value} {h : HV} (H : Hp w b gk gp base n ck cp iv h) (hc : Chg S w w1) (h1 : ¬ S b) (h2 : ¬ S gk) (h3 : ¬ S gp) (h4 : ∀ k, iv.ownBlock = some k → ¬ S k) : Hp w1 b gk gp base n ck cp iv h :=
  ⟨H.ib.keep hc h1, hc.own H.io h4, H.kw.keep hc h1 h2, H.pb.keep hc h1, hc.own H.po (fun k e => by cases e; exact h3), H.n2, H.n5, H.n6, H.ni⟩
theorem Hp.sw {w : World} {b gk gp base n ck cp : Nat} {iv : Value} {h : HV} (H : Hp w b gk gp base n ck cp iv h) (h0 : 0 < h.ids.length) : ∃ gi ci, iv = .slice (some ⟨gi, 0, none⟩) h.ids.length ci ∧ Sw w b gi gp base n ci cp (h.ids, h.pl) ∧ gi ≠ gk ∧ h.ids.length ≤ ci := by
  obtain ⟨gi, ci, rfl, _, hc, _⟩ := own_some H.io h0 (by decide)
  obtain ⟨a1, a2, a3⟩ := H.ni gi rfl
  exact ⟨gi, ci, rfl, ⟨H.ib, H.pb, H.io, H.po, a1, H.n2, a3⟩, a2, hc⟩
theorem Hp.of_sw {w : World} {b gi gk gp base n ci ck cp : Nat} {s : HSt} {ks : List Int} (hs : Sw w b gi gp base n ci cp s) (hk : Kw w b gk base n ck ks) (n4 : gi ≠ gk) (n5 : gp ≠ gk) (n6 : gk ≠ b) : Hp w b gk gp base n ck cp (.slice (some ⟨gi, 0, none⟩) s.1.length ci) ⟨s.1, ks, s.2⟩ :=
  ⟨hs.ib, hs.io, hk, hs.pb, hs.po, hs.n2, n5, n6, fun k e => by cases e; exact ⟨hs.n1, n4, hs.n3⟩⟩
/-- The blocks of a heap. -/
def HS (b gk gp : Nat) (iv : Value) : Nat → Prop := fun k => k = b ∨ k = gk ∨ k = gp ∨ iv.ownBlock = some k
/-- What an act on a heap leaves. -/
structure Acts (w w' : World) (b gk gp base n ck cp : Nat) (iv : Value) (h : HV) : Prop where
  hp : ∃ iv', Hp w' b gk gp base n ck cp iv' h ∧ (iv'.ownBlock = iv.ownBlock ∨ ∃ k, iv'.ownBlock = some k ∧ w.heap.size ≤ k)
  ch : Chg (HS b gk gp iv) w w'
theorem Acts.stay {w w' : World} {b gk gp base n ck cp : Nat} {iv : Value} {h : HV} (H : Hp w b gk gp base n ck cp iv h) (hb : Below w.heap.size w w') : Acts w w' b gk gp base n ck cp iv h := ⟨⟨iv, H.below hb, .inl rfl⟩, .of_below hb⟩
theorem hmade (b gp n cp : Nat) (w : World) (hc : w.cell? ⟨b, 2, none⟩ = some (.slice (some ⟨gp, 0, none⟩) n cp)) (hn : 0 < n) : Calls Try.prog 30 #[.pointer (some ⟨b, 0, none⟩)] w fun e w' => e = .returned (.bool true) ∧ w = w' := by
  go_enter Try.func30, Try.ntmps30
  go_wp2
  go_ret
  exact ⟨rfl, rfl⟩
theorem hlen {w : World} {b gk gp base n ck cp : Nat} {iv : Value} {h : HV} (H : Hp w b gk gp base n ck cp iv h) (hn : 0 < n) : Calls Try.prog 12 #[.pointer (some ⟨b, 0, none⟩)] w fun e w' => e = .returned (.int .i64 h.ids.length) ∧ w = w' := by
  have HM := Lib.hid (hmade b gp n cp w H.pb.cell hn)
  obtain ⟨A, c, rfl⟩ := own_slice H.io
  have k1 := H.ib.cell
  generalize h.ids.length = len at k1 ⊢
  clear H
  go_enter Try.func12, Try.ntmps12
  go_wp2_with (go_at_call 30; (with_reducible refine HM.out.mono ?_); rintro e w1 ⟨rfl, rfl⟩)
  go_ret
  exact ⟨rfl, rfl⟩
/-- find. -/
def findV (n : Nat) (pl : List Int) (id : Int) (there : Bool) (other : Int) : Int := if id < 0 ∨ (n : Int) ≤ id then 8 else if (pl.getD id.toNat 0 != -1) != there then other else 0
set_option maxHeartbeats 1000000 in
theorem hfind {w : World} {b gk gp base n ck cp : Nat} {iv : Value} {h : HV} (H : Hp w b gk gp base n ck cp iv h) (hn : 0 < n) (id : Int) (there : Bool) (other : Int) :
    Calls Try.prog 27 #[.pointer (some ⟨b, 0, none⟩), .int .i64 id, .bool there, .int .i64 other] w fun e w' => e = .returned (.int .i64 (findV n h.pl id there other)) ∧ w = w' := by
  have HM := Lib.hid (hmade b gp n cp w H.pb.cell hn)
  have HV : Hid (findV n h.pl id there other = if id < 0 ∨ (n : Int) ≤ id then 8 else if (h.pl.getD id.toNat 0 != -1) != there then other else 0) := rfl
  generalize findV n h.pl id there other = v at HV ⊢
  have k1 := H.pb.cell
  by_cases h1 : id < 0
  · have hv := HV.out
    rw [if_pos (.inl h1)] at hv
    subst hv
    clear HV H
    go_enter Try.func27, Try.ntmps27
    go_wp2_with (go_at_call 30; (with_reducible refine HM.out.mono ?_); rintro e w1 ⟨rfl, rfl⟩)
    go_ret
    exact ⟨rfl, rfl⟩
  · by_cases h2 : (n : Int) ≤ id
    · have hv := HV.out
      rw [if_pos (.inr h2)] at hv
      subst hv
      clear HV H
      go_enter Try.func27, Try.ntmps27
      go_wp2_with (go_at_call 30; (with_reducible refine HM.out.mono ?_); rintro e w1 ⟨rfl, rfl⟩)
      go_ret
      exact ⟨rfl, rfl⟩
    · have hv := HV.out
      rw [if_neg (by omega)] at hv
      obtain ⟨x, rfl⟩ := Int.eq_ofNat_of_zero_le (show 0 ≤ id by omega)
      have hx : x < n := by omega
      obtain ⟨g1, _, _⟩ := rowGet H.po hx
      rw [Int.toNat_natCast] at hv
      generalize h.pl.getD x 0 = p at g1 hv
      clear HV H
      by_cases hp : p = -1 <;> cases there
      all_goals
        have hpb : (p != -1) = decide (p ≠ -1) := by by_cases hq : p = -1 <;> simp [hq]
        simp only [hp, ne_eq, not_true_eq_false, not_false_eq_true, decide_true, decide_false] at hpb
        simp [hp] at hv
        subst hv
        go_enter Try.func27, Try.ntmps27
        go_wp2_with (go_at_call 30; (with_reducible refine HM.out.mono ?_); rintro e w1 ⟨rfl, rfl⟩)
        go_ret
        exact ⟨rfl, rfl⟩
set_option maxRecDepth 100000 in
set_option maxHeartbeats 2000000 in
/-- Put, of one that may not be put. -/
theorem hputNo {w : World} {b gk gp base n ck cp : Nat} {iv : Value} {h : HV} (H : Hp w b gk gp base n ck cp iv h) (hn : 0 < n) (id key : Int) (hv : findV n h.pl id false 5 ≠ 0) :
    Calls Try.prog 10 #[.pointer (some ⟨b, 0, none⟩), .int .i64 id, .int .i64 key] w fun e w' => e = .returned (.int .i64 (findV n h.pl id false 5)) ∧ w = w' := by
  have HF := Lib.hid (hfind H hn id false 5)
  generalize findV n h.pl id false 5 = v at HF hv ⊢
  clear H
  go_enter Try.func10, Try.ntmps10
  go_wp2_with (go_at_call 27; (with_reducible refine HF.out.mono ?_); rintro e w1 ⟨rfl, rfl⟩)
  go_ret
  exact ⟨rfl, rfl⟩
theorem Box.set_other {w : World} {b o o' : Nat} {v : Value} (h : Box w b o v) (u : Value) (hne : o ≠ o') : Box (w.setCell ⟨b, o', none⟩ u) b o v := by
  have h1 := h.cell
  have h2 := h.free
  constructor
  · go_simp
  · go_simp
theorem put_world {W1 w2 : World} {b gk gp base n ck cp len c g2 c2 x : Nat} {A : Option Addr} {ks pl : List Int} {ids : List Nat} (hib : Box W1 b 0 (.slice A len c)) (hkw : Kw W1 b gk base n ck ks) (hpb : Box W1 b 2 (.slice (some ⟨gp, 0, none⟩) n cp)) (hpo : W1.ownsRow base 3 1 (.slice (some ⟨gp, 0, none⟩) n cp) n (nums .i64 pl))
    (hl : ids.length = len) (n2 : gp ≠ b) (n6 : gk ≠ b) (ni : ∀ k, (Value.slice A len c).ownBlock = some k → k ≠ b ∧ k ≠ gk ∧ k ≠ gp)
    (ho : w2.ownsRow base 3 1 (.slice (some ⟨g2, 0, none⟩) (len + 1) c2) (len + 1) (nums .i64 (zs ids) ++ [.int .i64 x])) (hg : W1.grownBy w2 (Value.slice A len c).ownBlock) (hob : (Value.slice (some ⟨g2, 0, none⟩) (len + 1) c2).ownBlock = (Value.slice A len c).ownBlock ∨ ∃ k, (Value.slice (some ⟨g2, 0, none⟩) (len + 1) c2).ownBlock = some k ∧ W1.heap.size ≤ k) :
    Sw (w2.setCell ⟨b, 0, none⟩ (.slice (some ⟨g2, 0, none⟩) (len + 1) c2)) b g2 gp base n c2 cp (ids ++ [x], pl) ∧ Kw (w2.setCell ⟨b, 0, none⟩ (.slice (some ⟨g2, 0, none⟩) (len + 1) c2)) b gk base n ck ks ∧ g2 ≠ gk ∧ Chg (fun k => k = b ∨ (Value.slice A len c).ownBlock = some k) W1 (w2.setCell ⟨b, 0, none⟩ (.slice (some ⟨g2, 0, none⟩) (len + 1) c2)) ∧ ((Value.slice A len c).ownBlock = some g2 ∨ W1.heap.size ≤ g2) := by
  have hb1 := hib.lt
  have hk1 := (hkw.ko.lt gk rfl).2
  have hp1 := (hpo.lt gp rfl).2
  have hob2 : (Value.slice A len c).ownBlock = some g2 ∨ W1.heap.size ≤ g2 := by
    rcases hob with h | ⟨k, h1, h2⟩
    · exact .inl h.symm
    · cases h1
      exact .inr h2
  have hne : g2 ≠ b ∧ g2 ≠ gk ∧ g2 ≠ gp := by
    rcases hob2 with h | h
    · exact ni g2 h
    · omega
  have c1 : Chg (fun k => (Value.slice A len c).ownBlock = some k) W1 w2 := Chg.of_grown hg (fun k h => h)
  have ib2 := hib.keep c1 (fun h => (ni b h).1 rfl)
  have kw2 := hkw.keep c1 (fun h => (ni b h).1 rfl) (fun h => (ni gk h).2.1 rfl)
  have pb2 := hpb.keep c1 (fun h => (ni b h).1 rfl)
  have po2 := c1.own hpo (fun k e h => by cases e; exact (ni gp h).2.2 rfl)
  have c2 : Chg (fun k => k = b) w2 (w2.setCell ⟨b, 0, none⟩ (.slice (some ⟨g2, 0, none⟩) (len + 1) c2)) := (Chg.refl _ _).setCell _ _ _ rfl
  have hl2 : (ids ++ [x]).length = len + 1 := by simp [hl]
  refine ⟨⟨by simp only [hl2]; exact ib2.set _, pb2.set_other _ (by decide), ?_, c2.own po2 (fun k e h => by cases e; exact n2 h), hne.1, n2, hne.2.2⟩, ⟨kw2.kb.set_other _ (by decide), c2.own kw2.ko (fun k e h => by cases e; exact n6 h)⟩, hne.2.1, (c1.mono (fun _ _ h => .inr h)).trans (c2.mono (fun _ _ h => .inl h)), hob2⟩
  simp only [hl2]
  have h3 := c2.own ho (fun k e h => by cases e; exact hne.1 h)
  rwa [show nums .i64 (zs ids) ++ [.int .i64 (x : Int)] = nums .i64 (zs (ids ++ [x])) by simp [nums, zs]] at h3
set_option maxRecDepth 100000 in
set_option maxHeartbeats 8000000 in
/-- Put, of one that may. -/
theorem hputOk {w : World} {b gk gp base n ck cp : Nat} {iv : Value} {h : HV} (H : Hp w b gk gp base n ck cp iv h) (hn : 0 < n) (hn2 : n ≤ 4096) (x : Nat) (key : Int) (hx : x < n) (hr : InR n (h.ids, h.pl)) (hl : h.ids.length < n) (hp : h.pl.getD x 0 = -1) (hbase : base ≤ w.heap.size) :
    Calls Try.prog 10 #[.pointer (some ⟨b, 0, none⟩), .int .i64 x, .int .i64 key] w fun e w' => e = .returned (.int .i64 0) ∧ Acts w w' b gk gp base n ck cp iv (putV h x key) := by
  have HF := Lib.hid (hfind H hn x false 5)
  rw [show findV n h.pl x false 5 = 0 by unfold findV; rw [if_neg (by omega), Int.toNat_natCast, hp]; rfl] at HF
  obtain ⟨A, c, rfl⟩ := own_slice H.io
  obtain ⟨q1, q2, q3⟩ := rowGet H.kw.ko hx
  have k1 := H.kw.kb.cell
  obtain ⟨W1, hW1⟩ : ∃ W1, W1 = w.setCell ⟨gk, x, none⟩ (.int .i64 key) := ⟨_, rfl⟩
  have c1 : Chg (fun k => k = gk) w W1 := by rw [hW1]; exact (Chg.refl _ _).setCell _ _ _ rfl
  have hib1 := H.ib.keep c1 (fun e => H.n6 e.symm)
  have hio1 := c1.own H.io (fun k e e2 => (H.ni k e).2.1 e2)
  have hko1 := q3 key
  rw [← hW1] at hko1
  have hkw1 : Kw W1 b gk base n ck (h.ks.set x key) := ⟨H.kw.kb.keep c1 (fun e => H.n6 e.symm), hko1⟩
  have hpb1 := H.pb.keep c1 (fun e => H.n6 e.symm)
  have hpo1 := c1.own H.po (fun k e e2 => by cases e; exact H.n5 e2)
  have k2 := hib1.cell
  have k2f := hib1.free
  obtain ⟨len, hlen⟩ : ∃ len, h.ids.length = len := ⟨_, rfl⟩
  have n2 := H.n2
  have n5 := H.n5
  have n6 := H.n6
  have hni := H.ni
  rw [hlen] at hio1 k2 hl hib1 hni
  have hsz : W1.heap.size = w.heap.size := by rw [hW1]; simp
  have HB1 : Hid (base ≤ W1.heap.size) := Nat.le_trans hbase c1.size
  have HP : Hid (∀ (g2 c2 : Nat) (w2 : World), w2.ownsRow base 3 1 (.slice (some ⟨g2, 0, none⟩) (len + 1) c2) (len + 1) (nums .i64 (zs h.ids) ++ [.int .i64 x]) → W1.grownBy w2 (Value.slice A len c).ownBlock → ((Value.slice (some ⟨g2, 0, none⟩) (len + 1) c2).ownBlock = (Value.slice A len c).ownBlock ∨ ∃ k, (Value.slice (some ⟨g2, 0, none⟩) (len + 1) c2).ownBlock = some k ∧ W1.heap.size ≤ k) →
      Box w2 b 0 (.slice A len c) ∧ Calls Try.prog 28 #[.pointer (some ⟨b, 0, none⟩), .int .i64 len] (w2.setCell ⟨b, 0, none⟩ (.slice (some ⟨g2, 0, none⟩) (len + 1) c2)) fun e w' => e = .returned (.tuple #[]) ∧ Acts w w' b gk gp base n ck cp (.slice A h.ids.length c) (putV h x key)) := by
    intro g2 c2 w2 ho hg hob
    obtain ⟨s1, s2, s3, s4, s5⟩ := put_world hib1 hkw1 hpb1 hpo1 hlen n2 n6 hni ho hg hob
    have cg : Chg (fun k => (Value.slice A len c).ownBlock = some k) W1 w2 := Chg.of_grown hg (fun k h => h)
    refine ⟨hib1.keep cg (fun h => (hni b h).1 rfl), ?_⟩
    have hll : (h.ids ++ [x]).length = len + 1 := by simp [hlen]
    refine (hup b g2 gk gp base n c2 ck cp (h.ks.set x key) (h.ids ++ [x], h.pl) len _ s1 s2 s3 n5 (by show len < (h.ids ++ [x]).length; omega) ?_ (by show (h.ids ++ [x]).length ≤ _; omega)).mono ?_
    · intro y hy
      rcases List.mem_append.1 hy with h1 | h1
      · exact hr y h1
      · rw [List.mem_singleton.1 h1]; exact hx
    · rintro e w' ⟨rfl, t1, t2⟩
      rw [show (h.ids ++ [x], h.pl).1.getD len 0 = x by simp [List.getD_eq_getElem?_getD, ← hlen]] at t1
      have t3 := s2.keep t2 (by have := s1.n1; omega) (by omega)
      refine ⟨rfl, ⟨⟨.slice (some ⟨g2, 0, none⟩) (upV (h.ks.set x key) x len len (h.ids ++ [x], h.pl)).1.length c2, ?_, ?_⟩, ?_⟩⟩
      · have h5 := Hp.of_sw t1 t3 s3 n5 n6
        rw [show putV h x key = ⟨(upV (h.ks.set x key) x len len (h.ids ++ [x], h.pl)).1, h.ks.set x key, (upV (h.ks.set x key) x len len (h.ids ++ [x], h.pl)).2⟩ by unfold putV; simp only [hlen]]
        exact h5
      · rcases s5 with h6 | h6
        · exact .inl (by rw [hlen]; exact h6.symm)
        · exact .inr ⟨g2, rfl, by omega⟩
      · refine ((c1.mono (fun k _ e => .inr (.inl e))).then_ s4 (fun k _ e => ?_)).then_ t2 (fun k hk e => ?_)
        · rcases e with e | e
          · exact .inl e
          · exact .inr (.inr (.inr (by rw [hlen]; exact e)))
        · rcases e with e | e
          · rcases s5 with h6 | h6
            · exact .inr (.inr (.inr (by rw [hlen, e]; exact h6)))
            · omega
          · exact .inr (.inr (.inl e))
  have HIO := Lib.hid hio1
  have HSZ := Lib.hid hsz
  have hl8 : (len + 1) * 8 ≤ 140737488355328 := by omega
  rw [hlen] at HP ⊢
  subst hW1
  clear H q3 hko1 hib1 hkw1 hpb1 hpo1 hio1 c1 hni hsz hr hp hlen
  go_enter Try.func10, Try.ntmps10
  go_wp2_with (first
    | (go_at_call 27; (with_reducible refine HF.out.mono ?_); rintro e w1 ⟨rfl, rfl⟩)
    | (go_at_call 28; (with_reducible refine HU.mono ?_); rintro e w4 ⟨rfl, hA⟩)
    | (at_builtin; refine ap1 (w0 := w.setCell ⟨gk, x, none⟩ (.int .i64 key)) base (by rfl) _ _ 22 3 _ 8 (by rfl) Try.underlying22 info_hint rfl (by decide) _ len _ (.int .i64 x) (by rfl) (by rw [HSZ.out]; rfl) rfl HIO.out (Below.refl _ _) HB1.out hl8 ?_; intro v2 w2 ho2 _ hg2 hob2; obtain ⟨g2, c2, rfl, _⟩ := own_some ho2 (Nat.succ_pos _) (by decide); obtain ⟨hbx, HU⟩ := HP.out g2 c2 w2 ho2 hg2 hob2; have k5 := hbx.cell; have k6 := hbx.free))
  go_ret
  exact ⟨rfl, hA⟩
end Go.Proofs.Ytopikpjagjnbhaa
