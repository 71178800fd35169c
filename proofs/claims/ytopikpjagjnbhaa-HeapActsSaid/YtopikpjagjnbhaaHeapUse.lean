/- A heap of a call's own, that New made: what each act leaves; the document's examples. -/
import Derived.Test.YtopikpjagjnbhaaHeapNew
namespace Go.Proofs.Ytopikpjagjnbhaa
open Go.RowKit
theorem has_mem {h : HV} {x : Nat} : hasV h x ↔ x ∈ h.ids := by
  unfold hasV
  exact List.mem_iff_getElem?.symm
theorem nodup_ids {n : Nat} {h : HV} (s : Sd n h) : h.ids.Nodup := by
  refine List.pairwise_iff_getElem.2 (fun i j hi hj hij he => ?_)
  have h1 : h.ids[j]? = some h.ids[j] := List.getElem?_eq_getElem hj
  have h2 : h.ids[i]? = some h.ids[j] := by rw [← he]; exact List.getElem?_eq_getElem hi
  have := s.bij.inj h2 h1
  omega
theorem ids_lt {n : Nat} {h : HV} (s : Sd n h) (x : Nat) (hx : x < n) (hh : ¬ hasV h x) : h.ids.length < n := by
  have h1 := nodup_le n (x :: h.ids) (List.nodup_cons.2 ⟨fun e => hh (has_mem.2 e), nodup_ids s⟩) (fun y hy => by
    rcases List.mem_cons.1 hy with e | e
    · rw [e]; exact hx
    · exact has_lt s (has_mem.2 e))
  have h2 : h.ids.length + 1 ≤ n := h1
  omega
theorem pl_no {n : Nat} {h : HV} (s : Sd n h) (x : Nat) (hx : x < n) (hh : ¬ hasV h x) : h.pl.getD x 0 = -1 := by
  have h2 : h.pl[x]? = some (-1) := Classical.not_not.1 (fun e => hh ((has_iff s x hx).2 e))
  rw [List.getD_eq_getElem?_getD, h2]
  rfl
/-- A heap that lies behind w0. -/
def Hx (w0 w : World) (b n : Nat) (h : HV) : Prop :=
  ∃ gk gp ck cp iv, Hp w b gk gp w0.heap.size n ck cp iv h ∧ Sd n h ∧ w0.heap.size ≤ b ∧ w0.heap.size ≤ gk ∧ w0.heap.size ≤ gp ∧ Below w0.heap.size w0 w
theorem Hx.bl {w0 w : World} {b n : Nat} {h : HV} (H : Hx w0 w b n h) : Below w0.heap.size w0 w := by
  obtain ⟨_, _, _, _, _, _, _, _, _, _, h⟩ := H
  exact h
theorem Hx.sd {w0 w : World} {b n : Nat} {h : HV} (H : Hx w0 w b n h) : Sd n h := by
  obtain ⟨_, _, _, _, _, _, h, _⟩ := H
  exact h
theorem Hx.below {w0 w w1 : World} {b n : Nat} {h : HV} (H : Hx w0 w b n h) (hb : Below w.heap.size w w1) : Hx w0 w1 b n h := by
  obtain ⟨gk, gp, ck, cp, iv, H1, H2, H3, H4, H5, H6⟩ := H
  exact ⟨gk, gp, ck, cp, iv, H1.below hb, H2, H3, H4, H5, below_then H6 H6.size hb⟩
theorem Hx.acts {w0 w w' : World} {b gk gp n ck cp : Nat} {iv : Value} {h h' : HV} (H : Hp w b gk gp w0.heap.size n ck cp iv h) (H3 : w0.heap.size ≤ b) (H4 : w0.heap.size ≤ gk) (H5 : w0.heap.size ≤ gp) (H6 : Below w0.heap.size w0 w) (s : Sd n h') (A : Acts w w' b gk gp w0.heap.size n ck cp iv h') : Hx w0 w' b n h' := by
  obtain ⟨⟨iv', h1, _⟩, h3⟩ := A
  exact ⟨gk, gp, ck, cp, iv', h1, s, H3, H4, H5, h3.toBelow H6 H6.size (fun k e => by
    rcases e with e | e | e | e
    · omega
    · omega
    · omega
    · exact own_base H.io k e)⟩
theorem Hx.made {w0 W : World} {n : Nat} {v : Value} (h : (FHp w0.heap.size n).p v W) (hb : Below w0.heap.size w0 W) : ∃ b, v = .pointer (some ⟨b, 0, none⟩) ∧ Hx w0 W b n (newV n) := by
  obtain ⟨b, gk, gp, cp, h1, h2, h3, h4, h5⟩ := h
  exact ⟨b, h1, gk, gp, n, cp, _, h5, (new_ok n).1, h2, h3, h4, hb⟩
theorem xput {w0 w : World} {b n : Nat} {h : HV} (H : Hx w0 w b n h) (hn : n ≤ 4096) (x : Nat) (z key : Int) (hz : z = (x : Int)) (hx : x < n) (hh : ¬ hasV h x) :
    Calls Try.prog 10 #[.pointer (some ⟨b, 0, none⟩), .int .i64 z, .int .i64 key] w fun e w' => e = .returned (.int .i64 0) ∧ Hx w0 w' b n (putV h x key) := by
  subst hz
  obtain ⟨gk, gp, ck, cp, iv, H1, H2, H3, H4, H5, H6⟩ := H
  refine (hputOk H1 (by omega) hn x key hx (InR.of_bij H2.bij) (ids_lt H2 x hx hh) (pl_no H2 x hx hh) H6.size).mono ?_
  rintro e w' ⟨rfl, hA⟩
  exact ⟨rfl, Hx.acts H1 H3 H4 H5 H6 (put_ok H2 x key hx hh).sd hA⟩
theorem xchange {w0 w : World} {b n : Nat} {h : HV} (H : Hx w0 w b n h) (hn : n ≤ 4096) (x : Nat) (z key : Int) (hz : z = (x : Int)) (hh : hasV h x) :
    Calls Try.prog 13 #[.pointer (some ⟨b, 0, none⟩), .int .i64 z, .int .i64 key] w fun e w' => e = .returned (.int .i64 0) ∧ Hx w0 w' b n (changeV h x key) := by
  subst hz
  obtain ⟨gk, gp, ck, cp, iv, H1, H2, H3, H4, H5, H6⟩ := H
  refine (hchangeOk H1 H2 hn x key hh).mono ?_
  rintro e w' ⟨rfl, hA⟩
  exact ⟨rfl, Hx.acts H1 H3 H4 H5 H6 (change_ok H2 x key hh).sd hA⟩
theorem place_ids {n : Nat} {h : HV} (s : Sd n h) (x : Nat) (hh : hasV h x) : h.ids[placeV h x]? = some x := by
  obtain ⟨i, hi, _, hp, _⟩ := place_of s hh
  unfold placeV
  rw [hp]
  exact hi
theorem xremove {w0 w : World} {b n : Nat} {h : HV} (H : Hx w0 w b n h) (hn : n ≤ 4096) (x : Nat) (z : Int) (hz : z = (x : Int)) (hh : hasV h x) :
    Calls Try.prog 14 #[.pointer (some ⟨b, 0, none⟩), .int .i64 z] w fun e w' => e = .returned (.int .i64 0) ∧ Hx w0 w' b n (outV h (placeV h x)) := by
  subst hz
  obtain ⟨gk, gp, ck, cp, iv, H1, H2, H3, H4, H5, H6⟩ := H
  refine (hremoveOk H1 H2 hn x hh).mono ?_
  rintro e w' ⟨rfl, hA⟩
  exact ⟨rfl, Hx.acts H1 H3 H4 H5 H6 (out_ok H2 _ x (place_ids H2 x hh)).sd hA⟩
theorem xpop {w0 w : World} {b n : Nat} {h : HV} (H : Hx w0 w b n h) (hn : n ≤ 4096) (x : Nat) (hx : h.ids[0]? = some x) :
    Calls Try.prog 11 #[.pointer (some ⟨b, 0, none⟩)] w fun e w' => e = .returned (.tuple #[.int .i64 x, .int .i64 (h.ks.getD x 0), .bool true]) ∧ Hx w0 w' b n (outV h 0) := by
  obtain ⟨gk, gp, ck, cp, iv, H1, H2, H3, H4, H5, H6⟩ := H
  refine (hpopOk H1 H2 hn x hx).mono ?_
  rintro e w' ⟨rfl, hA⟩
  exact ⟨rfl, Hx.acts H1 H3 H4 H5 H6 (out_ok H2 _ x hx).sd hA⟩
theorem xpopNo {w0 w : World} {b n : Nat} {h : HV} (H : Hx w0 w b n h) (hn : 0 < n) (h0 : h.ids.length = 0) :
    Calls Try.prog 11 #[.pointer (some ⟨b, 0, none⟩)] w fun e w' => e = .returned (.tuple #[.int .i64 0, .int .i64 0, .bool false]) ∧ w = w' := by
  obtain ⟨gk, gp, ck, cp, iv, H1, _⟩ := H
  exact hpopNo H1 hn h0
theorem xlen {w0 w : World} {b n : Nat} {h : HV} (H : Hx w0 w b n h) (hn : 0 < n) :
    Calls Try.prog 12 #[.pointer (some ⟨b, 0, none⟩)] w fun e w' => e = .returned (.int .i64 h.ids.length) ∧ w = w' := by
  obtain ⟨gk, gp, ck, cp, iv, H1, _⟩ := H
  exact hlen H1 hn
def hv1 : HV := putV (newV 4) 3 5
def hv2 : HV := putV hv1 1 5
def hv3 : HV := putV hv2 2 9
def hv4 : HV := outV hv3 0
def hv5 : HV := changeV hv4 2 1
set_option maxRecDepth 100000 in
set_option maxHeartbeats 4000000 in
/-- The document's examples. -/
theorem lives06 (w : World) : Calls Try.prog 8 #[] w fun e w' => e = .returned (.bool true) ∧ Below w.heap.size w w' := by
  have HN := Lib.hid (hnew 4 4 rfl w (by decide) (by decide))
  have H1 := Lib.hid (fun b W (H : Hx w W b 4 (newV 4)) => xput H (by decide) 3 3 5 rfl (by decide) (by rw [has_mem]; decide))
  have H2 := Lib.hid (fun b W (H : Hx w W b 4 hv1) => xput H (by decide) 1 1 5 rfl (by decide) (by rw [has_mem]; decide))
  have H3 := Lib.hid (fun b W (H : Hx w W b 4 hv2) => xput H (by decide) 2 2 9 rfl (by decide) (by rw [has_mem]; decide))
  have H4 := Lib.hid (fun b W (H : Hx w W b 4 hv3) => xpop H (by decide) 1 (by decide))
  have H5 := Lib.hid (fun b W (H : Hx w W b 4 hv4) => xchange H (by decide) 2 2 1 rfl (by rw [has_mem]; decide))
  have H6 := Lib.hid (fun b W (H : Hx w W b 4 hv5) => xpop H (by decide) 2 (by decide))
  rw [show hv3.ks.getD 1 0 = 5 by decide] at H4
  rw [show hv5.ks.getD 2 0 = 1 by decide] at H6
  go_enter Try.func8, Try.ntmps8
  go_wp2_with (first
    | (go_at_call 9; (with_reducible refine HN.out.mono ?_); rintro e w1 ⟨⟨v, rfl, hv⟩, hb1⟩; obtain ⟨b, rfl, hX0⟩ := Hx.made hv hb1)
    | (go_at_call 10; (with_reducible refine (H1.out _ _ hX0).mono ?_); rintro e w2 ⟨rfl, hX1⟩)
    | (go_at_call 10; (with_reducible refine (H2.out _ _ hX1).mono ?_); rintro e w3 ⟨rfl, hX2⟩)
    | (go_at_call 10; (with_reducible refine (H3.out _ _ hX2).mono ?_); rintro e w4 ⟨rfl, hX3⟩)
    | (go_at_call 11; (with_reducible refine (H4.out _ _ hX3).mono ?_); rintro e w5 ⟨rfl, hX4⟩)
    | (go_at_call 13; (with_reducible refine (H5.out _ _ hX4).mono ?_); rintro e w6 ⟨rfl, hX5⟩)
    | (go_at_call 11; (with_reducible refine (H6.out _ _ hX5).mono ?_); rintro e w7 ⟨rfl, hX6⟩))
  go_ret
  exact ⟨rfl, hX6.bl⟩
end Go.Proofs.Ytopikpjagjnbhaa
