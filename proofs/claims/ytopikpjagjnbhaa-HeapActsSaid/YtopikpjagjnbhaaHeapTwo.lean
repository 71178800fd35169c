/- Heaps behind a world, with the blocks that are theirs: two heaps apart. -/
import Derived.Test.YtopikpjagjnbhaaHeapLow
import Derived.Test.YtopikpjagjnbhaaHeapCopy
import Derived.Test.YtopikpjagjnbhaaSortAll
import Derived.Test.YtopikpjagjnbhaaHeapSound
namespace Go.Proofs.Ytopikpjagjnbhaa
open Go.RowKit
/-- A heap that lies behind w0; S: its blocks. -/
def Hz (w0 w : World) (b n : Nat) (h : HV) (S : Nat → Prop) : Prop :=
  ∃ gk gp ck cp iv, Hp w b gk gp w0.heap.size n ck cp iv h ∧ Sd n h ∧ w0.heap.size ≤ b ∧ w0.heap.size ≤ gk ∧ w0.heap.size ≤ gp ∧ Below w0.heap.size w0 w ∧ ∀ k, S k ↔ HS b gk gp iv k
theorem Hz.hx {w0 w : World} {b n : Nat} {h : HV} {S : Nat → Prop} (H : Hz w0 w b n h S) : Hx w0 w b n h := by
  obtain ⟨gk, gp, ck, cp, iv, h1, h2, h3, h4, h5, h6, _⟩ := H
  exact ⟨gk, gp, ck, cp, iv, h1, h2, h3, h4, h5, h6⟩
theorem Hx.hz {w0 w : World} {b n : Nat} {h : HV} (H : Hx w0 w b n h) : ∃ S, Hz w0 w b n h S := by
  obtain ⟨gk, gp, ck, cp, iv, h1, h2, h3, h4, h5, h6⟩ := H
  exact ⟨HS b gk gp iv, gk, gp, ck, cp, iv, h1, h2, h3, h4, h5, h6, fun _ => Iff.rfl⟩
theorem Hz.lt {w0 w : World} {b n : Nat} {h : HV} {S : Nat → Prop} (H : Hz w0 w b n h S) {k : Nat} (hk : S k) : k < w.heap.size := by
  obtain ⟨gk, gp, ck, cp, iv, h1, h2, h3, h4, h5, h6, h7⟩ := H
  rcases (h7 k).1 hk with e | e | e | e
  · rw [e]; exact h1.ib.lt
  · rw [e]; exact (h1.kw.ko.lt gk rfl).2
  · rw [e]; exact (h1.po.lt gp rfl).2
  · exact (h1.io.lt k e).2
theorem Hz.ge {w0 w : World} {b n : Nat} {h : HV} {S : Nat → Prop} (H : Hz w0 w b n h S) {k : Nat} (hk : S k) : w0.heap.size ≤ k := by
  obtain ⟨gk, gp, ck, cp, iv, h1, h2, h3, h4, h5, h6, h7⟩ := H
  rcases (h7 k).1 hk with e | e | e | e
  · rw [e]; exact h3
  · rw [e]; exact h4
  · rw [e]; exact h5
  · exact (h1.io.lt k e).1
theorem Hz.below {w0 w w1 : World} {b n : Nat} {h : HV} {S : Nat → Prop} (H : Hz w0 w b n h S) (hb : Below w.heap.size w w1) : Hz w0 w1 b n h S := by
  obtain ⟨gk, gp, ck, cp, iv, h1, h2, h3, h4, h5, h6, h7⟩ := H
  exact ⟨gk, gp, ck, cp, iv, h1.below hb, h2, h3, h4, h5, below_then h6 h6.size hb, h7⟩
theorem Hz.keep {w0 w w1 : World} {b n : Nat} {h : HV} {S T : Nat → Prop} (H : Hz w0 w b n h S) (hc : Chg T w w1) (hd : ∀ k, S k → ¬ T k) (hT : ∀ k, T k → w0.heap.size ≤ k) : Hz w0 w1 b n h S := by
  obtain ⟨gk, gp, ck, cp, iv, h1, h2, h3, h4, h5, h6, h7⟩ := H
  exact ⟨gk, gp, ck, cp, iv, h1.keep hc (hd b ((h7 b).2 (.inl rfl))) (hd gk ((h7 gk).2 (.inr (.inl rfl)))) (hd gp ((h7 gp).2 (.inr (.inr (.inl rfl))))) (fun k e => hd k ((h7 k).2 (.inr (.inr (.inr e))))), h2, h3, h4, h5, hc.toBelow h6 h6.size hT, h7⟩
/-- What an act did with the blocks. -/
def Stp (w w' : World) (S S' : Nat → Prop) : Prop := Chg S w w' ∧ ∀ k, S' k → S k ∨ w.heap.size ≤ k
theorem Hz.acts {w0 w w' : World} {b gk gp n ck cp : Nat} {iv : Value} {h h' : HV} {S : Nat → Prop} (H : Hp w b gk gp w0.heap.size n ck cp iv h) (H3 : w0.heap.size ≤ b) (H4 : w0.heap.size ≤ gk) (H5 : w0.heap.size ≤ gp) (H6 : Below w0.heap.size w0 w) (H7 : ∀ k, S k ↔ HS b gk gp iv k) (s : Sd n h') (A : Acts w w' b gk gp w0.heap.size n ck cp iv h') :
    ∃ S', Hz w0 w' b n h' S' ∧ Stp w w' S S' := by
  obtain ⟨⟨iv', h1, h2⟩, h3⟩ := A
  refine ⟨HS b gk gp iv', ⟨gk, gp, ck, cp, iv', h1, s, H3, H4, H5, h3.toBelow H6 H6.size (fun k e => ?_), fun _ => Iff.rfl⟩, h3.mono (fun k _ e => (H7 k).2 e), fun k e => ?_⟩
  · rcases e with e | e | e | e
    · omega
    · omega
    · omega
    · exact own_base H.io k e
  · rcases e with e | e | e | e
    · exact .inl ((H7 k).2 (.inl e))
    · exact .inl ((H7 k).2 (.inr (.inl e)))
    · exact .inl ((H7 k).2 (.inr (.inr (.inl e))))
    · rcases h2 with h2 | ⟨j, h2, h4⟩
      · exact .inl ((H7 k).2 (.inr (.inr (.inr (by rw [← h2]; exact e)))))
      · rw [h2] at e
        cases e
        exact .inr h4
theorem zput {w0 w : World} {b n : Nat} {h : HV} {S : Nat → Prop} (H : Hz w0 w b n h S) (hn : n ≤ 4096) (x : Nat) (z key : Int) (hz : z = (x : Int)) (hx : x < n) (hh : ¬ hasV h x) :
    Calls Try.prog 10 #[.pointer (some ⟨b, 0, none⟩), .int .i64 z, .int .i64 key] w fun e w' => e = .returned (.int .i64 0) ∧ Hid (∃ S', Hz w0 w' b n (putV h x key) S' ∧ Stp w w' S S') := by
  subst hz
  obtain ⟨gk, gp, ck, cp, iv, H1, H2, H3, H4, H5, H6, H7⟩ := H
  refine (hputOk H1 (by omega) hn x key hx (InR.of_bij H2.bij) (ids_lt H2 x hx hh) (pl_no H2 x hx hh) H6.size).mono ?_
  rintro e w' ⟨rfl, hA⟩
  exact ⟨rfl, Lib.hid (Hz.acts H1 H3 H4 H5 H6 H7 (put_ok H2 x key hx hh).sd hA)⟩
theorem zputNo {w0 w : World} {b n : Nat} {h : HV} {S : Nat → Prop} (H : Hz w0 w b n h S) (hn : 0 < n) (id key : Int) (r : Int) (hr : findV n h.pl id false 5 = r) (h0 : r ≠ 0) :
    Calls Try.prog 10 #[.pointer (some ⟨b, 0, none⟩), .int .i64 id, .int .i64 key] w fun e w' => e = .returned (.int .i64 r) ∧ w = w' := by
  obtain ⟨gk, gp, ck, cp, iv, H1, H2, H3, H4, H5, H6, H7⟩ := H
  have HF := Lib.hid (hfind H1 hn id false 5)
  rw [hr] at HF
  clear hr H1 H2 H3 H4 H5 H6 H7
  go_enter Try.func10, Try.ntmps10
  go_wp2_with (go_at_call 27; (with_reducible refine HF.out.mono ?_); rintro e w1 ⟨rfl, rfl⟩)
  go_ret
  exact ⟨rfl, rfl⟩
theorem zchange {w0 w : World} {b n : Nat} {h : HV} {S : Nat → Prop} (H : Hz w0 w b n h S) (hn : n ≤ 4096) (x : Nat) (z key : Int) (hz : z = (x : Int)) (hh : hasV h x) :
    Calls Try.prog 13 #[.pointer (some ⟨b, 0, none⟩), .int .i64 z, .int .i64 key] w fun e w' => e = .returned (.int .i64 0) ∧ Hid (∃ S', Hz w0 w' b n (changeV h x key) S' ∧ Stp w w' S S') := by
  subst hz
  obtain ⟨gk, gp, ck, cp, iv, H1, H2, H3, H4, H5, H6, H7⟩ := H
  refine (hchangeOk H1 H2 hn x key hh).mono ?_
  rintro e w' ⟨rfl, hA⟩
  exact ⟨rfl, Lib.hid (Hz.acts H1 H3 H4 H5 H6 H7 (change_ok H2 x key hh).sd hA)⟩
theorem zremove {w0 w : World} {b n : Nat} {h : HV} {S : Nat → Prop} (H : Hz w0 w b n h S) (hn : n ≤ 4096) (x : Nat) (z : Int) (hz : z = (x : Int)) (hh : hasV h x) :
    Calls Try.prog 14 #[.pointer (some ⟨b, 0, none⟩), .int .i64 z] w fun e w' => e = .returned (.int .i64 0) ∧ Hid (∃ S', Hz w0 w' b n (outV h (placeV h x)) S' ∧ Stp w w' S S') := by
  subst hz
  obtain ⟨gk, gp, ck, cp, iv, H1, H2, H3, H4, H5, H6, H7⟩ := H
  refine (hremoveOk H1 H2 hn x hh).mono ?_
  rintro e w' ⟨rfl, hA⟩
  exact ⟨rfl, Lib.hid (Hz.acts H1 H3 H4 H5 H6 H7 (out_ok H2 _ x (place_ids H2 x hh)).sd hA)⟩
theorem zpop {w0 w : World} {b n : Nat} {h : HV} {S : Nat → Prop} (H : Hz w0 w b n h S) (hn : n ≤ 4096) (x : Nat) (hx : h.ids[0]? = some x) :
    Calls Try.prog 11 #[.pointer (some ⟨b, 0, none⟩)] w fun e w' => e = .returned (.tuple #[.int .i64 x, .int .i64 (h.ks.getD x 0), .bool true]) ∧ Hid (∃ S', Hz w0 w' b n (outV h 0) S' ∧ Stp w w' S S') := by
  obtain ⟨gk, gp, ck, cp, iv, H1, H2, H3, H4, H5, H6, H7⟩ := H
  refine (hpopOk H1 H2 hn x hx).mono ?_
  rintro e w' ⟨rfl, hA⟩
  exact ⟨rfl, Lib.hid (Hz.acts H1 H3 H4 H5 H6 H7 (out_ok H2 _ x hx).sd hA)⟩
theorem zlower {w0 w : World} {b n : Nat} {h : HV} {S : Nat → Prop} (H : Hz w0 w b n h S) (hn : n ≤ 4096) (h0 : 0 < n) (hk : KR h) (z : Int) (hz : I64 z) (hf : ∀ x ∈ h.ids, I64 (h.ks.getD x 0 - z)) :
    Calls Try.prog 24 #[.pointer (some ⟨b, 0, none⟩), .int .i64 z] w fun e w' => e = .returned (.int .i64 0) ∧ Hid (∃ S', Hz w0 w' b n (lowerV h z) S' ∧ Stp w w' S S') := by
  obtain ⟨gk, gp, ck, cp, iv, H1, H2, H3, H4, H5, H6, H7⟩ := H
  refine (hlowerOk H1 H2 hn h0 hk z hz hf).mono ?_
  rintro e w' ⟨rfl, hA⟩
  exact ⟨rfl, Lib.hid (Hz.acts H1 H3 H4 H5 H6 H7 (lower_ok H2 z) hA)⟩
theorem zlowerNo {w0 w : World} {b n : Nat} {h : HV} {S : Nat → Prop} (H : Hz w0 w b n h S) (hn : n ≤ 4096) (h0 : 0 < n) (hk : KR h) (z : Int) (hz : I64 z) (hf : ¬ ∀ x ∈ h.ids, I64 (h.ks.getD x 0 - z)) :
    Calls Try.prog 24 #[.pointer (some ⟨b, 0, none⟩), .int .i64 z] w fun e w' => e = .returned (.int .i64 8) ∧ w = w' := by
  obtain ⟨gk, gp, ck, cp, iv, H1, H2, H3, H4, H5, H6, H7⟩ := H
  exact hlowerNo H1 H2 hn h0 hk z hz hf
theorem zsound {w0 w : World} {b n : Nat} {h : HV} {S : Nat → Prop} (H : Hz w0 w b n h S) (hn : n ≤ 4096) (h0 : 0 < n) :
    Calls Try.prog 18 #[.pointer (some ⟨b, 0, none⟩)] w fun e w' => e = .returned (.bool true) ∧ Hid (Below w.heap.size w w') := by
  obtain ⟨gk, gp, ck, cp, iv, H1, H2, H3, H4, H5, H6, H7⟩ := H
  exact hsound H1 H2 hn h0
theorem zkey {w0 w : World} {b n : Nat} {h : HV} {S : Nat → Prop} (H : Hz w0 w b n h S) (x : Nat) (z : Int) (hz : z = (x : Int)) (hh : hasV h x) :
    Calls Try.prog 15 #[.pointer (some ⟨b, 0, none⟩), .int .i64 z] w fun e w' => e = .returned (.tuple #[.int .i64 (h.ks.getD x 0), .bool true]) ∧ w = w' := by
  subst hz
  obtain ⟨gk, gp, ck, cp, iv, H1, H2, H3, H4, H5, H6, H7⟩ := H
  exact hkeyOk H1 H2 x hh
theorem zkeyNo {w0 w : World} {b n : Nat} {h : HV} {S : Nat → Prop} (H : Hz w0 w b n h S) (hn : 0 < n) (id : Int) (hv : findV n h.pl id true 4 ≠ 0) :
    Calls Try.prog 15 #[.pointer (some ⟨b, 0, none⟩), .int .i64 id] w fun e w' => e = .returned (.tuple #[.int .i64 0, .bool false]) ∧ w = w' := by
  obtain ⟨gk, gp, ck, cp, iv, H1, H2, H3, H4, H5, H6, H7⟩ := H
  exact hkeyNo H1 hn id hv
theorem zall {w0 w : World} {b n : Nat} {h : HV} {S : Nat → Prop} (H : Hz w0 w b n h S) (hn : 0 < n) (hn2 : n ≤ 4096) :
    Calls Try.prog 17 #[.pointer (some ⟨b, 0, none⟩)] w fun e w' => ∃ v, e = .returned v ∧ Hid (w'.ownsRow w.heap.size 3 1 v h.ids.length (nums .i64 (zs (byKeys h.ks h.ids)))) ∧ Hid (Below w.heap.size w w') := by
  refine (xall H.hx hn hn2).mono ?_
  rintro e w' ⟨v, rfl, h1, _, h2⟩
  exact ⟨v, rfl, h1, h2⟩
theorem zcopy {w0 w : World} {b n : Nat} {h : HV} {S : Nat → Prop} (H : Hz w0 w b n h S) (hn : 0 < n) (hn2 : n ≤ 4096) :
    Calls Try.prog 25 #[.pointer (some ⟨b, 0, none⟩)] w fun e w' => ∃ b', e = .returned (.pointer (some ⟨b', 0, none⟩)) ∧ Hid (∃ S', Hz w w' b' n h S') ∧ Hid (Below w.heap.size w w') := by
  obtain ⟨gk, gp, ck, cp, iv, H1, H2, H3, H4, H5, H6, H7⟩ := H
  refine (hcopy H1 hn hn2 (by have := ids_le H2; omega)).mono ?_
  rintro e w' ⟨b', rfl, hc, hb⟩
  obtain ⟨gk', gp', ck', cp', iv', h1, h2, h3, h4⟩ := hc.out
  exact ⟨b', rfl, Lib.hid ⟨_, gk', gp', ck', cp', iv', h1, H2, h2, h3, h4, hb.out, fun _ => Iff.rfl⟩, hb⟩
/-- Two heaps, apart. -/
def H2 (w0 w : World) (b1 n1 : Nat) (h1 : HV) (b2 n2 : Nat) (h2 : HV) : Prop := ∃ S1 S2, Hz w0 w b1 n1 h1 S1 ∧ Hz w0 w b2 n2 h2 S2 ∧ ∀ k, S1 k → ¬ S2 k
theorem H2.swap {w0 w : World} {b1 n1 b2 n2 : Nat} {h1 h2 : HV} (H : H2 w0 w b1 n1 h1 b2 n2 h2) : H2 w0 w b2 n2 h2 b1 n1 h1 := by
  obtain ⟨S1, S2, a, b, c⟩ := H
  exact ⟨S2, S1, b, a, fun k e e2 => c k e2 e⟩
theorem H2.below {w0 w w1 : World} {b1 n1 b2 n2 : Nat} {h1 h2 : HV} (H : H2 w0 w b1 n1 h1 b2 n2 h2) (hb : Below w.heap.size w w1) : H2 w0 w1 b1 n1 h1 b2 n2 h2 := by
  obtain ⟨S1, S2, a, b, c⟩ := H
  exact ⟨S1, S2, a.below hb, b.below hb, c⟩
theorem H2.one {w0 w w' : World} {b1 n1 b2 n2 : Nat} {h1 h1' h2 : HV} {S1 S1' S2 : Nat → Prop} (a : Hz w0 w b1 n1 h1 S1) (b : Hz w0 w b2 n2 h2 S2) (c : ∀ k, S1 k → ¬ S2 k) (a' : Hz w0 w' b1 n1 h1' S1') (st : Stp w w' S1 S1') : H2 w0 w' b1 n1 h1' b2 n2 h2 := by
  refine ⟨S1', S2, a', b.keep st.1 (fun k e e2 => c k e2 e) (fun k e => a.ge e), fun k e e2 => ?_⟩
  rcases st.2 k e with e3 | e3
  · exact c k e3 e2
  · have := b.lt e2
    omega
/-- A heap made when another stood. -/
theorem H2.new {w0 w w1 : World} {b1 n1 b2 n2 : Nat} {h1 h2 : HV} (H : Hx w0 w b1 n1 h1) (hb : Below w.heap.size w w1) (K : Hx w w1 b2 n2 h2) : H2 w0 w1 b1 n1 h1 b2 n2 h2 := by
  obtain ⟨S1, a⟩ := H.hz
  obtain ⟨S2, gk, gp, ck, cp, iv, k1, k2, k3, k4, k5, k6, k7⟩ := K.hz
  have hbl := H.bl
  refine ⟨S1, S2, a.below hb, ⟨gk, gp, ck, cp, iv, ⟨k1.ib, own_mono k1.io hbl.size, ⟨k1.kw.kb, own_mono k1.kw.ko hbl.size⟩, k1.pb, own_mono k1.po hbl.size, k1.n2, k1.n5, k1.n6, k1.ni⟩, k2, Nat.le_trans hbl.size k3, Nat.le_trans hbl.size k4, Nat.le_trans hbl.size k5, below_then hbl hbl.size k6, k7⟩, fun k e e2 => ?_⟩
  have t1 := a.lt e
  rcases (k7 k).1 e2 with e | e | e | e
  · omega
  · omega
  · omega
  · have := own_base k1.io k e
    omega
theorem H2.put {w0 w : World} {b1 n1 b2 n2 : Nat} {h1 h2 : HV} (H : H2 w0 w b1 n1 h1 b2 n2 h2) (hn : n1 ≤ 4096) (x : Nat) (z key : Int) (hz : z = (x : Int)) (hx : x < n1) (hh : ¬ hasV h1 x) :
    Calls Try.prog 10 #[.pointer (some ⟨b1, 0, none⟩), .int .i64 z, .int .i64 key] w fun e w' => e = .returned (.int .i64 0) ∧ Hid (H2 w0 w' b1 n1 (putV h1 x key) b2 n2 h2) := by
  obtain ⟨S1, S2, a, b, c⟩ := H
  refine (zput a hn x z key hz hx hh).mono ?_
  rintro e w' ⟨rfl, h⟩
  obtain ⟨S', g1, g2⟩ := h.out
  exact ⟨rfl, Lib.hid (H2.one a b c g1 g2)⟩
theorem H2.change {w0 w : World} {b1 n1 b2 n2 : Nat} {h1 h2 : HV} (H : H2 w0 w b1 n1 h1 b2 n2 h2) (hn : n1 ≤ 4096) (x : Nat) (z key : Int) (hz : z = (x : Int)) (hh : hasV h1 x) :
    Calls Try.prog 13 #[.pointer (some ⟨b1, 0, none⟩), .int .i64 z, .int .i64 key] w fun e w' => e = .returned (.int .i64 0) ∧ Hid (H2 w0 w' b1 n1 (changeV h1 x key) b2 n2 h2) := by
  obtain ⟨S1, S2, a, b, c⟩ := H
  refine (zchange a hn x z key hz hh).mono ?_
  rintro e w' ⟨rfl, h⟩
  obtain ⟨S', g1, g2⟩ := h.out
  exact ⟨rfl, Lib.hid (H2.one a b c g1 g2)⟩
theorem H2.remove {w0 w : World} {b1 n1 b2 n2 : Nat} {h1 h2 : HV} (H : H2 w0 w b1 n1 h1 b2 n2 h2) (hn : n1 ≤ 4096) (x : Nat) (z : Int) (hz : z = (x : Int)) (hh : hasV h1 x) :
    Calls Try.prog 14 #[.pointer (some ⟨b1, 0, none⟩), .int .i64 z] w fun e w' => e = .returned (.int .i64 0) ∧ Hid (H2 w0 w' b1 n1 (outV h1 (placeV h1 x)) b2 n2 h2) := by
  obtain ⟨S1, S2, a, b, c⟩ := H
  refine (zremove a hn x z hz hh).mono ?_
  rintro e w' ⟨rfl, h⟩
  obtain ⟨S', g1, g2⟩ := h.out
  exact ⟨rfl, Lib.hid (H2.one a b c g1 g2)⟩
/-- By keys, of the same ids with the same keys: the same. -/
theorem byKeys_perm (ks : List Int) (l : List Nat) : (byKeys ks l).Perm l := List.mergeSort_perm _ _
theorem byKeys_ord (ks : List Int) (l : List Nat) : (byKeys ks l).Pairwise (fun x y => leK ks x y) := by
  have h := List.pairwise_mergeSort (le := fun x y => !ltF ks y x) (fun a b c h1 h2 => by
    simp only [Bool.not_eq_true'] at h1 h2 ⊢
    rw [ltF_false] at *
    exact leK_trans h1 h2) (fun a b => by
    rcases leK_total ks a b with h | h
    · rw [← ltF_false] at h
      simp [h]
    · rw [← ltF_false] at h
      simp [h]) l
  refine h.imp (fun {a b} hab => ?_)
  simp only [Bool.not_eq_true'] at hab
  exact (ltF_false ks b a).1 hab
theorem byKeys_uniq {ks : List Int} {l r : List Nat} (hp : r.Perm l) (ho : r.Pairwise (fun x y => leK ks x y)) : r = byKeys ks l := by
  refine List.Perm.eq_of_pairwise (le := fun x y => leK ks x y) ?_ ho (byKeys_ord ks l) (hp.trans (byKeys_perm ks l).symm)
  intro a b _ _ h1 h2
  unfold leK at *
  omega
theorem byKeys_same {ks ks' : List Int} {l l' : List Nat} (hp : l.Perm l') (hk : ∀ x y, x ∈ l → y ∈ l → leK ks x y → leK ks' x y) : byKeys ks l = byKeys ks' l' := by
  refine byKeys_uniq ((byKeys_perm ks l).trans hp) ?_
  refine (byKeys_ord ks l).imp_of_mem (fun {a b} ha hb h => ?_)
  exact hk a b ((byKeys_perm ks l).mem_iff.1 ha) ((byKeys_perm ks l).mem_iff.1 hb) h
theorem byKeys_len (ks : List Int) (l : List Nat) : (byKeys ks l).length = l.length := (byKeys_perm ks l).length_eq
theorem zs_inj {l r : List Nat} (h : zs l = zs r) : l = r := by
  unfold zs at h
  exact (List.map_inj_right (fun a b e => by omega)).1 h
/-- An own row of ids, read. -/
theorem ids_rds {w : World} {base n : Nat} {v : Value} {l : List Nat} (h : w.ownsRow base 3 1 v n (nums .i64 (zs l))) : ∃ A c, v = .slice A n c ∧ Rds w 1 A n c (nums .i64 (zs l)) := own_rds h
end Go.Proofs.Ytopikpjagjnbhaa
