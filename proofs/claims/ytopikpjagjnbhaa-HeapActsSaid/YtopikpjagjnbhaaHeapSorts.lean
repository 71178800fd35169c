/- The law HeapSorts, walked: what is put comes out by keys. -/
import Derived.Test.YtopikpjagjnbhaaHeapUse
namespace Go.Proofs.Ytopikpjagjnbhaa
open Go.RowKit
/-- i of the keys are in it. -/
structure Put1 (keys : List Int) (i : Nat) (h : HV) : Prop where
  has : ∀ x, hasV h x ↔ x < i
  ks : ∀ x, x < i → h.ks.getD x 0 = keys.getD x 0
  len : h.ids.length = i
theorem Put1.zero (keys : List Int) (n : Nat) : Put1 keys 0 (newV n) := by
  refine ⟨fun x => ⟨fun hh => absurd hh ((new_ok n).2 x), fun e => absurd e (by omega)⟩, fun x e => absurd e (by omega), rfl⟩
theorem Put1.step {keys : List Int} {i n : Nat} {h : HV} (p : Put1 keys i h) (s : Sd n h) (hi : i < n) : ¬ hasV h i ∧ Put1 keys (i + 1) (putV h i (keys.getD i 0)) := by
  have hno : ¬ hasV h i := fun e => by have := (p.has i).1 e; omega
  have t := put_ok s i (keys.getD i 0) hi hno
  refine ⟨hno, fun x => ?_, fun x hx => ?_, by rw [t.len, p.len]⟩
  · rw [t.has x, p.has x]
    omega
  · rw [t.ks]
    by_cases e : x = i
    · subst e
      rw [List.getD_eq_getElem?_getD, List.getElem?_set, if_pos rfl, if_pos (by rw [s.klen]; exact hi)]
      rfl
    · rw [ks_set _ _ _ _ e]
      exact p.ks x (by omega)
/-- m came out; the last one, if there was one. -/
structure Pop1 (keys : List Int) (m : Nat) (last was : Int) (h : HV) : Prop where
  in_ : ∀ x, hasV h x → x < keys.length
  ks : ∀ x, hasV h x → h.ks.getD x 0 = keys.getD x 0
  len : m + h.ids.length = keys.length
  ord : 0 < m → ∀ x, hasV h x → was < keys.getD x 0 ∨ was = keys.getD x 0 ∧ last ≤ (x : Int)
theorem Pop1.step {keys : List Int} {m n : Nat} {last was : Int} {h : HV} (p : Pop1 keys m last was h) (s : Sd n h) (x : Nat) (hx : h.ids[0]? = some x) :
    Pop1 keys (m + 1) x (h.ks.getD x 0) (outV h 0) ∧ x < keys.length ∧ keys.getD x 0 = h.ks.getD x 0 ∧ (0 < m → ¬ (h.ks.getD x 0 < was) ∧ (h.ks.getD x 0 = was → ¬ ((x : Int) < last))) := by
  have hh : hasV h x := ⟨0, hx⟩
  have t := out_ok s 0 x hx
  have hk := p.ks x hh
  have h0 := get_lt hx
  have hl := p.len
  refine ⟨⟨fun y hy => p.in_ y ((t.has y).1 hy).1, fun y hy => by rw [t.ks]; exact p.ks y ((t.has y).1 hy).1, by rw [t.len]; omega, fun _ y hy => ?_⟩, p.in_ x hh, hk.symm, fun hm => ?_⟩
  · have hy2 := ((t.has y).1 hy).1
    have h1 := first_least s x hx y hy2
    unfold leK at h1
    rw [p.ks y hy2] at h1
    omega
  · have h1 := p.ord hm x hh
    rw [hk]
    omega
theorem Pop1.first {keys : List Int} {h : HV} (p : Put1 keys keys.length h) : Pop1 keys 0 (-1) 0 h :=
  ⟨fun x hx => (p.has x).1 hx, fun x hx => p.ks x ((p.has x).1 hx), by rw [p.len]; omega, fun e => absurd e (by omega)⟩
theorem sorts_lives (A : Option Addr) (n c : Nat) (w : World) (hn : 200 < n) : Calls Try.prog 3 #[.slice A n c] w fun e w' => e = .returned (.bool true) ∧ Below w.heap.size w w' := by
  have HL := Lib.hid (lives06 w)
  have hn' : (200 : Int) < (n : Int) := by omega
  go_enter Try.func3, Try.ntmps3
  go_wp2_with (go_at_call 8; (with_reducible refine HL.out.mono ?_); rintro e w1 ⟨rfl, hb⟩)
  go_ret
  exact ⟨rfl, hb⟩
set_option maxRecDepth 100000 in
set_option maxHeartbeats 8000000 in
theorem sorts_walk (A : Option Addr) (n c : Nat) (keys : List Int) (w : World) (hr : Rds w 1 A n c (nums .i64 keys)) (hn : n ≤ 200) : Calls Try.prog 3 #[.slice A n c] w fun e w' => e = .returned (.bool true) ∧ Below w.heap.size w w' := by
  have hkl : keys.length = n := by have := hr.len; rw [nums_length] at this; omega
  have hn' : ¬ ((200 : Int) < (n : Int)) := by omega
  have HN := Lib.hid (hnew 200 200 rfl w (by decide) (by decide))
  have HL := Lib.hid lives06
  have HP := Lib.hid (fun b W h (H : Hx w W b 200 h) (i : Nat) (hi : i < 200) (hh : ¬ hasV h i) => xput H (by decide) i i (keys.getD i 0) rfl hi hh)
  have HR := Lib.hid hr
  go_enter Try.func3, Try.ntmps3
  go_wp2_with (go_at_call 9; (with_reducible refine HN.out.mono ?_); rintro e w1 ⟨⟨v, rfl, hv⟩, hb1⟩; obtain ⟨b, rfl, hX0⟩ := Hx.made hv hb1)
  go_loopw [21] (fun i wr => ∃ (k : Nat) (h : HV), k ≤ n ∧ i = .int .i64 k ∧ Hid (Put1 keys k h) ∧ Hid (Hx w wr b 200 h)) (fun i _ => n - (intOf i).toNat)
  case atStart => exact ⟨0, _, Nat.zero_le _, rfl, (show Hid _ from Put1.zero keys 200), (show Hid _ from hX0)⟩
  case round =>
    obtain ⟨k, h, hk, rfl, hp, hX⟩ := hrel
    by_cases hkn : k < n
    · have hkn' : (k : Int) < (n : Int) := by omega
      obtain ⟨ad, rfl⟩ := hr.some_ (by omega)
      have hcell := (HR.out.below hX.out.bl).cell ad rfl k _ (nums_get .i64 keys k (by omega))
      rw [show keys[k] = keys.getD k 0 by simp [List.getD_eq_getElem?_getD, hkl, hkn]] at hcell
      have st := hp.out.step hX.out.sd (show k < 200 by omega)
      have HPk := Lib.hid (HP.out b _ h hX.out k (by omega) st.1)
      have ST := Lib.hid st.2
      clear st
      generalize hky : keys.getD k 0 = key at hcell HPk ST
      go_wp2_with (go_at_call 10; (with_reducible refine HPk.out.mono ?_); rintro e w2 ⟨rfl, hX1⟩)
      go_roundw
      case rel => exact ⟨k + 1, _, by omega, by go_num, (show Hid _ from ST.out), (show Hid _ from hX1)⟩
      case measure => simp only [intOf]; omega
    · obtain rfl : k = n := by omega
      clear HP HN
      have hp0 : Put1 keys keys.length h := by rw [hkl]; exact hp.out
      have P0 := Lib.hid (Pop1.first hp0)
      go_wp2
      obtain ⟨W1, rfl⟩ : ∃ x, x = wr := ⟨_, rfl⟩
      clear hp0
      go_loopw [6, 7, 8] (fun i j l wr => ∃ (m : Nat) (last was : Int) (h : HV), m ≤ k ∧ l = .int .i64 m ∧ i = .int .i64 last ∧ j = .int .i64 was ∧ Hid (Pop1 keys m last was h) ∧ Hid (Hx w wr b 200 h)) (fun _ _ l _ => k - (intOf l).toNat)
      case atStart => exact ⟨0, _, _, h, Nat.zero_le _, rfl, rfl, rfl, (show Hid _ from P0.out), (show Hid _ from hX.out)⟩
      case round =>
        obtain ⟨m, last, was, h2, hm, rfl, rfl, rfl, hp2, hX2⟩ := hrel
        by_cases h0 : h2.ids.length = 0
        · obtain rfl : m = k := by have := hp2.out.len; omega
          have HPN := Lib.hid (xpopNo hX2.out (by decide) h0)
          have HLN := Lib.hid (xlen hX2.out (by decide))
          rw [h0] at HLN
          clear h0 hp hp2
          go_wp2_with (first
            | (go_at_call 11; (with_reducible refine HPN.out.mono ?_); rintro e w2 ⟨rfl, rfl⟩)
            | (go_at_call 12; (with_reducible refine HLN.out.mono ?_); rintro e w3 ⟨rfl, rfl⟩)
            | (go_at_call 8; (with_reducible refine (HL.out _).mono ?_); rintro e w4 ⟨rfl, hb4⟩))
          go_ret
          exact ⟨rfl, below_then hX2.out.bl hX2.out.bl.size hb4⟩
        · obtain ⟨x, hx⟩ : ∃ x, h2.ids[0]? = some x := ⟨_, getD_getH _ _ (by omega)⟩
          have hmk : m + 1 ≤ k := by have := hp2.out.len; omega
          have st := hp2.out.step hX2.out.sd x hx
          have HPO := Lib.hid (xpop hX2.out (by decide) x hx)
          have ST := Lib.hid st.1
          obtain ⟨_, hxk, hky, hord⟩ := st
          generalize h2.ks.getD x 0 = key at hky hord HPO ST
          obtain ⟨ad, rfl⟩ := hr.some_ (by omega)
          have HCE : Hid (∀ W, Below w.heap.size w W → W.cell? (ad.add x) = some (.int .i64 key)) := by
            intro W hb
            have hc := (HR.out.below hb).cell ad rfl x _ (nums_get .i64 keys x hxk)
            rwa [show keys[x] = key by rw [← hky]; simp [List.getD_eq_getElem?_getD, hxk]] at hc
          have hxk' : (x : Int) < (k : Int) := by omega
          clear hky hp hp2 h0 hx hX P0
          by_cases hm0 : m = 0
          · subst hm0
            clear hord
            go_wp2_with (go_at_call 11; (with_reducible refine HPO.out.mono ?_); rintro e w2 ⟨rfl, hX3⟩; have hcell := HCE.out _ hX3.bl)
            go_roundw
            case rel => exact ⟨1, (x : Int), key, _, hmk, by go_num, rfl, rfl, (show Hid _ from ST.out), (show Hid _ from hX3)⟩
            case measure => simp only [intOf]; omega
          · have h3 := hord (by omega)
            have hm1 : (0 : Int) < (m : Int) := by omega
            obtain ⟨h4, h5⟩ := h3
            clear hord
            by_cases h6 : key = was
            · have h7 := h5 h6
              clear h5
              subst h6
              go_wp2_with (go_at_call 11; (with_reducible refine HPO.out.mono ?_); rintro e w2 ⟨rfl, hX3⟩; have hcell := HCE.out _ hX3.bl)
              go_roundw
              case rel => exact ⟨m + 1, (x : Int), key, _, hmk, by go_num, rfl, rfl, (show Hid _ from ST.out), (show Hid _ from hX3)⟩
              case measure => simp only [intOf]; omega
            · clear h5
              go_wp2_with (go_at_call 11; (with_reducible refine HPO.out.mono ?_); rintro e w2 ⟨rfl, hX3⟩; have hcell := HCE.out _ hX3.bl)
              go_roundw
              case rel => exact ⟨m + 1, (x : Int), key, _, hmk, by go_num, rfl, rfl, (show Hid _ from ST.out), (show Hid _ from hX3)⟩
              case measure => simp only [intOf]; omega
end Go.Proofs.Ytopikpjagjnbhaa
