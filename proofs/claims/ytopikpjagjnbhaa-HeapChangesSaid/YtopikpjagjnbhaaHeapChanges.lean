/- The law HeapChanges, walked: another key, another place. -/
import Derived.Test.YtopikpjagjnbhaaHeapTwo
import Derived.Test.YtopikpjagjnbhaaHeapSorts
import Derived.Test.YtopikpjagjnbhaaInts03
namespace Go.Proofs.Ytopikpjagjnbhaa
open Go.RowKit
theorem changes_lives (A : Option Addr) (n c : Nat) (x y : Int) (key : Int) (w : World) (hn : n < 2 ∨ 100 < n) : Calls Try.prog 4 #[.slice A n c, .agg #[.int .u64 x, .int .u64 y], .int .i64 key] w fun e w' => e = .returned (.bool true) ∧ Below w.heap.size w w' := by
  have HL := Lib.hid lives06
  rcases hn with hn | hn
  · have hn' : (n : Int) < 2 := by omega
    go_enter Try.func4, Try.ntmps4
    go_wp2_with (go_at_call 8; (with_reducible refine (HL.out _).mono ?_); rintro e w1 ⟨rfl, hb⟩)
    go_ret
    exact ⟨rfl, below_then (below_al (Below.refl _ _) _) (below_al (Below.refl _ _) _).size hb⟩
  · have hn' : ¬ (n : Int) < 2 := by omega
    have hn2 : (100 : Int) < (n : Int) := by omega
    go_enter Try.func4, Try.ntmps4
    go_wp2_with (go_at_call 8; (with_reducible refine (HL.out _).mono ?_); rintro e w1 ⟨rfl, hb⟩)
    go_ret
    exact ⟨rfl, below_then (below_al (Below.refl _ _) _) (below_al (Below.refl _ _) _).size hb⟩
/-- i of the keys are in it, but for the one at b; that at a is another one. -/
structure Put2 (keys : List Int) (key : Int) (a b i : Nat) (h : HV) : Prop where
  has : ∀ x, hasV h x ↔ x < i ∧ x ≠ b
  ks : ∀ x, x < i → x ≠ b → h.ks.getD x 0 = if x = a then key else keys.getD x 0
theorem Put2.zero (keys : List Int) (key : Int) (a b n : Nat) : Put2 keys key a b 0 (newV n) :=
  ⟨fun x => ⟨fun hh => absurd hh ((new_ok n).2 x), fun e => absurd e.1 (by omega)⟩, fun x e => absurd e (by omega)⟩
theorem Put2.skip {keys : List Int} {key : Int} {a b i : Nat} {h : HV} (p : Put2 keys key a b i h) (hi : i = b) : Put2 keys key a b (i + 1) h :=
  ⟨fun x => by rw [p.has x]; omega, fun x h1 h2 => p.ks x (by omega) h2⟩
theorem Put2.step {keys : List Int} {key : Int} {a b i n : Nat} {h : HV} (p : Put2 keys key a b i h) (s : Sd n h) (hi : i < n) (hb : i ≠ b) (v : Int) (hv : v = if i = a then key else keys.getD i 0) : ¬ hasV h i ∧ Put2 keys key a b (i + 1) (putV h i v) := by
  have hno : ¬ hasV h i := fun e => by have := (p.has i).1 e; omega
  have t := put_ok s i v hi hno
  refine ⟨hno, fun x => ?_, fun x hx hxb => ?_⟩
  · rw [t.has x, p.has x]
    omega
  · rw [t.ks]
    by_cases e : x = i
    · subst e
      rw [List.getD_eq_getElem?_getD, List.getElem?_set, if_pos rfl, if_pos (by rw [s.klen]; exact hi), hv]
      rfl
    · rw [ks_set _ _ _ _ e]
      exact p.ks x (by omega) hxb
theorem perm_of_has {n m : Nat} {h g : HV} (s : Sd n h) (t : Sd m g) (hh : ∀ x, hasV h x ↔ hasV g x) : h.ids.Perm g.ids :=
  (List.perm_ext_iff_of_nodup (nodup_ids s) (nodup_ids t)).2 (fun x => by rw [← has_mem, ← has_mem]; exact hh x)
/-- Behind all: both have the same order. -/
theorem changes_same {keys : List Int} {key : Int} {a b n : Nat} {h g : HV} (p : Put1 keys n h) (q : Put2 keys key a b n g) (s : Sd 100 h) (t : Sd 100 g) (ha : a < n) (hb : b < n) :
    hasV h a ∧ hasV (changeV h a key) b ∧ Sd 100 (changeV h a key) ∧ byKeys (outV (changeV h a key) (placeV (changeV h a key) b)).ks (outV (changeV h a key) (placeV (changeV h a key) b)).ids = byKeys g.ks g.ids ∧
      ¬ hasV (outV (changeV h a key) (placeV (changeV h a key) b)) b ∧ Sd 100 (outV (changeV h a key) (placeV (changeV h a key) b)) ∧ (outV (changeV h a key) (placeV (changeV h a key) b)).ids.length = g.ids.length := by
  have h1 : hasV h a := (p.has a).2 ha
  have c1 := change_ok s a key h1
  have h2 : hasV (changeV h a key) b := (c1.has b).2 ((p.has b).2 hb)
  have c2 := out_ok c1.sd _ b (place_ids c1.sd b h2)
  have hm : ∀ x, hasV (outV (changeV h a key) (placeV (changeV h a key) b)) x ↔ hasV g x := fun x => by rw [c2.has, c1.has, p.has, q.has]
  have hp := perm_of_has c2.sd t hm
  refine ⟨h1, h2, c1.sd, byKeys_same hp (fun x y hx hy hl => ?_), fun e => ((c2.has b).1 e).2 rfl, c2.sd, hp.length_eq⟩
  have e : ∀ z, z ∈ (outV (changeV h a key) (placeV (changeV h a key) b)).ids → (outV (changeV h a key) (placeV (changeV h a key) b)).ks.getD z 0 = g.ks.getD z 0 := fun z hz => by
    have hz2 := (q.has z).1 ((hm z).1 (has_mem.2 hz))
    rw [q.ks z hz2.1 hz2.2, c2.ks, c1.ks]
    by_cases ez : z = a
    · subst ez
      rw [if_pos rfl, List.getD_eq_getElem?_getD, List.getElem?_set, if_pos rfl, if_pos (by rw [s.klen]; exact has_lt s h1)]
      rfl
    · rw [if_neg ez, ks_set _ _ _ _ ez]
      exact p.ks z hz2.1
  unfold leK at *
  rw [← e x hx, ← e y hy]
  exact hl
theorem find_gone {n : Nat} {h : HV} (s : Sd n h) (x : Nat) (hx : x < n) (hh : ¬ hasV h x) : findV n h.pl x true 4 ≠ 0 := by
  rw [find_no s x hx hh 4]
  decide
theorem rem_nat (x : Int) (n : Nat) (hx : 0 ≤ x) (hn : 0 < n) : ∃ a : Nat, Int.tmod x n = (a : Int) ∧ a < n := by
  obtain ⟨u, rfl⟩ := Int.eq_ofNat_of_zero_le hx
  exact ⟨u % n, by rw [← Int.ofNat_tmod], Nat.mod_lt _ hn⟩
set_option maxRecDepth 100000 in
set_option maxHeartbeats 8000000 in
theorem changes_walk (A : Option Addr) (n c : Nat) (keys : List Int) (x y key : Int) (w : World) (hr : Rds w 1 A n c (nums .i64 keys)) (hn : 2 ≤ n) (hn2 : n ≤ 100) (hx : 0 ≤ x) (hy : 0 ≤ y) : Calls Try.prog 4 #[.slice A n c, .agg #[.int .u64 x, .int .u64 y], .int .i64 key] w fun e w' => e = .returned (.bool true) ∧ Below w.heap.size w w' := by
  have hkl : keys.length = n := by have := hr.len; rw [nums_length] at this; omega
  have hn' : ¬ (n : Int) < 2 := by omega
  have hn3 : ¬ ((100 : Int) < (n : Int)) := by omega
  have HN := Lib.hid (fun W => hnew 100 100 rfl W (by decide) (by decide))
  have HL := Lib.hid lives06
  have HR := Lib.hid hr
  obtain ⟨a, ha, han⟩ := rem_nat x n hx (by omega)
  obtain ⟨b, hb, hbn⟩ := rem_nat y n hy (by omega)
  have wn : IntKind.u64.wrap (n : Int) = (n : Int) := by rw [IntKind.wrap_u64]; omega
  have wa : IntKind.i64.wrap (a : Int) = (a : Int) := by rw [IntKind.wrap_i64] <;> omega
  have wb : IntKind.i64.wrap (b : Int) = (b : Int) := by rw [IntKind.wrap_i64] <;> omega
  have n0 : ¬ (n : Int) = 0 := by omega
  obtain ⟨W0, hW0⟩ : ∃ W, W = w.alloc (.cells #[.int .u64 x, .int .u64 y] 33) := ⟨_, rfl⟩
  have hb0 : Below w.heap.size w W0 := by rw [hW0]; exact below_al (Below.refl _ _) _
  have q0 : W0.cell? ⟨w.heap.size, 0, none⟩ = some (.int .u64 x) := by rw [hW0]; go_simp
  have q1 : W0.cell? ⟨w.heap.size, 1, none⟩ = some (.int .u64 y) := by rw [hW0]; go_simp
  have hs0 : w.heap.size < W0.heap.size := by rw [hW0]; simp
  have HQ := Lib.hid (show ∀ W, Below W0.heap.size W0 W → W.cell? ⟨w.heap.size, 0, none⟩ = some (.int .u64 x) ∧ W.cell? ⟨w.heap.size, 1, none⟩ = some (.int .u64 y) from fun W hb => ⟨cell_below hb q0, cell_below hb q1⟩)
  have HB0 := Lib.hid hb0
  clear q0 q1 hs0 hb0
  go_enter Try.func4, Try.ntmps4
  go_wp2_with (go_at_call 9; fail)
  rw [← hW0]
  clear hW0
  refine (HN.out W0).mono ?_
  rintro e w1 ⟨⟨v, rfl, hv⟩, hb1⟩
  obtain ⟨p1, rfl, hX1⟩ := Hx.made hv hb1
  have HX1 := Lib.hid hX1
  clear hv hX1
  go_wp2_with (go_at_call 9; fail)
  refine (HN.out w1).mono ?_
  rintro e w2 ⟨⟨v, rfl, hv⟩, hb2⟩
  obtain ⟨p2, rfl, hX2⟩ := Hx.made hv hb2
  have HT := Lib.hid (H2.new HX1.out hb2 hX2)
  have q := HQ.out w2 (below_tr hb1 hb2)
  obtain ⟨q0, q1⟩ := q
  clear hv hX2 HX1 HN
  go_wp2_with fail
  go_big_region
  have hb3 := below_dr (Below.refl w2.heap.size w2) 1
  change Below _ _ w2.drew at hb3
  generalize w2.drew = w3 at hb3 ⊢
  have HT3 := Lib.hid (HT.out.below hb3)
  have HBW : Hid (Below w.heap.size w W0) := HB0
  clear q0 q1 hb3 HT HQ
  go_wp2
  go_loopw [48] (fun i wr => ∃ (k : Nat) (h g : HV), k ≤ n ∧ i = .int .i64 k ∧ Hid (Put1 keys k h) ∧ Hid (Put2 keys key a b k g) ∧ Hid (H2 W0 wr p1 100 h p2 100 g)) (fun i _ => n - (intOf i).toNat)
  case atStart => exact ⟨0, _, _, Nat.zero_le _, rfl, Lib.hid (Put1.zero keys 100), Lib.hid (Put2.zero keys key a b 100), HT3⟩
  case round =>
    obtain ⟨k, h, g, hkn0, rfl, hp, hq, hT⟩ := hrel
    by_cases hkn : k < n
    · have hkn' : (k : Int) < (n : Int) := by omega
      obtain ⟨ad, rfl⟩ := hr.some_ (by omega)
      obtain ⟨S1, S2, z1, z2, z3⟩ := hT.out
      have hcell := (HR.out.below (below_then HBW.out HBW.out.size z1.hx.bl)).cell ad rfl k _ (nums_get .i64 keys k (by omega))
      rw [show keys[k] = keys.getD k 0 by simp [List.getD_eq_getElem?_getD, hkl, hkn]] at hcell
      have st := hp.out.step z1.hx.sd (show k < 100 by omega)
      have HPk := Lib.hid (hT.out.put (by decide) k (k : Int) (keys.getD k 0) rfl (by omega) st.1)
      have ST := Lib.hid st.2
      have hgsd := z2.hx.sd
      clear st z1 z2 z3
      by_cases hkb : k = b
      · have ST2 := Lib.hid (hq.out.skip hkb)
        have hkb' : (k : Int) = (b : Int) := by omega
        have hne : ((k : Int) != (b : Int)) = false := by simp [hkb']
        generalize keys.getD k 0 = kv at hcell HPk ST
        clear hkb hkb' hgsd
        by_cases hka : k = a
        · have hka' : ((k : Int) == (a : Int)) = true := by simp [hka]
          clear hka
          go_wp2_with (go_at_call 10; (with_reducible refine HPk.out.mono ?_); rintro e w4 ⟨rfl, hT1⟩)
          go_roundw
          case rel => exact ⟨k + 1, _, _, by omega, by go_num, ST, ST2, hT1⟩
          case measure => simp only [intOf]; omega
        · have hka' : ((k : Int) == (a : Int)) = false := by simp; omega
          clear hka
          go_wp2_with (go_at_call 10; (with_reducible refine HPk.out.mono ?_); rintro e w4 ⟨rfl, hT1⟩)
          go_roundw
          case rel => exact ⟨k + 1, _, _, by omega, by go_num, ST, ST2, hT1⟩
          case measure => simp only [intOf]; omega
      · have st2 := hq.out.step hgsd (show k < 100 by omega) hkb _ rfl
        have ST2 := Lib.hid st2.2
        have HP2 := Lib.hid (fun W h' (H : H2 W0 W p1 100 h' p2 100 g) => H.swap.put (by decide) k (k : Int) (if k = a then key else keys.getD k 0) rfl (by omega) st2.1)
        have hne : ((k : Int) != (b : Int)) = true := by simp; omega
        clear st2 hgsd hkb
        by_cases hka : k = a
        · have hka' : ((k : Int) == (a : Int)) = true := by simp [hka]
          rw [if_pos hka] at HP2 ST2
          generalize keys.getD k 0 = kv at hcell HPk ST
          clear hka
          go_wp2_with (go_at_call 10; fail)
          refine HPk.out.mono ?_
          rintro e w4 ⟨rfl, hT1⟩
          go_wp2_with (go_at_call 10; fail)
          refine (HP2.out _ _ hT1.out).mono ?_
          rintro e w5 ⟨rfl, hT2⟩
          have HT5 := Lib.hid hT2.out.swap
          go_wp2
          go_roundw
          case rel => exact ⟨k + 1, _, _, by omega, by go_num, ST, ST2, HT5⟩
          case measure => simp only [intOf]; omega
        · have hka' : ((k : Int) == (a : Int)) = false := by simp; omega
          rw [if_neg hka] at HP2 ST2
          generalize keys.getD k 0 = kv at hcell HPk ST HP2 ST2
          clear hka
          go_wp2_with (go_at_call 10; fail)
          refine HPk.out.mono ?_
          rintro e w4 ⟨rfl, hT1⟩
          go_wp2_with (go_at_call 10; fail)
          refine (HP2.out _ _ hT1.out).mono ?_
          rintro e w5 ⟨rfl, hT2⟩
          have HT5 := Lib.hid hT2.out.swap
          go_wp2
          go_roundw
          case rel => exact ⟨k + 1, _, _, by omega, by go_num, ST, ST2, HT5⟩
          case measure => simp only [intOf]; omega
    · obtain rfl : k = n := by omega
      obtain ⟨W1, rfl⟩ : ∃ x, x = wr := ⟨_, rfl⟩
      obtain ⟨S1, S2, z1, z2, z3⟩ := hT.out
      obtain ⟨m1, m2, m3, m4, m5, m6, m7⟩ := changes_same hp.out hq.out z1.hx.sd z2.hx.sd han hbn
      have HC := Lib.hid (hT.out.change (by decide) a (a : Int) key rfl m1)
      have HRM := Lib.hid (fun W (H : H2 W0 W p1 100 (changeV h a key) p2 100 g) => H.remove (by decide) b (b : Int) rfl m2)
      have HNO := Lib.hid (find_gone m6 b (by omega) m5)
      have HEQ := Lib.hid m4
      have HLE := Lib.hid m7
      generalize hfin : outV (changeV h a key) (placeV (changeV h a key) b) = hF at *
      clear hfin z1 z2 z3 m1 m2 m3 m4 m5 m6 m7 hT hp hq HT3
      go_wp2_with (go_at_call 13; fail)
      refine HC.out.mono ?_
      rintro e w4 ⟨rfl, hT1⟩
      go_wp2_with (go_at_call 14; fail)
      refine (HRM.out _ hT1.out).mono ?_
      rintro e w5 ⟨rfl, hT2⟩
      obtain ⟨S1, S2, z1, z2, z3⟩ := hT2.out
      have HZ1 := Lib.hid z1
      have HZ2 := Lib.hid z2
      clear z1 z2 z3 hT1 hT2 HC HRM
      go_wp2_with (go_at_call 15; fail)
      refine (zkeyNo HZ1.out (by decide) (b : Int) HNO.out).mono ?_
      rintro e w6 ⟨rfl, rfl⟩
      go_wp2_with (go_at_call 17; fail)
      refine (zall HZ1.out (by decide) (by decide)).mono ?_
      rintro e w6 ⟨v1, rfl, R1, B1⟩
      obtain ⟨A1, c1, rfl, _⟩ := ids_rds R1.out
      have HZ3 := Lib.hid (HZ1.out.below B1.out)
      have HZ4 := Lib.hid (HZ2.out.below B1.out)
      clear HZ1 HZ2
      go_wp2_with (go_at_call 17; fail)
      refine (zall HZ4.out (by decide) (by decide)).mono ?_
      rintro e w7 ⟨v2, rfl, R2, B2⟩
      obtain ⟨A2, c2, rfl, hr2⟩ := ids_rds R2.out
      obtain ⟨_, hr1⟩ := own_rds' (own_below R1.out B2.out)
      rw [HEQ.out] at hr1
      have hcmp := Lib.hid (ints03 _ _ _ _ _ _ _ _ w7 hr1 hr2)
      rw [show decide (zs (byKeys g.ks g.ids) = zs (byKeys g.ks g.ids)) = true from decide_eq_true rfl] at hcmp
      have HZ5 := Lib.hid (HZ3.out.below B2.out)
      clear hr1 hr2 HZ3 HZ4
      go_wp2_with (go_at_call 16; fail)
      refine hcmp.out.mono ?_
      rintro e w8 ⟨rfl, hb8⟩
      have HZ6 := Lib.hid (HZ5.out.below hb8)
      go_wp2_with (go_at_call 18; fail)
      refine (zsound HZ6.out (by decide) (by decide)).mono ?_
      rintro e w9 ⟨rfl, HB9⟩
      have HZ7 := Lib.hid (HZ6.out.below HB9.out)
      go_wp2_with (go_at_call 8; fail)
      refine (HL.out _).mono ?_
      rintro e w10 ⟨rfl, hb10⟩
      have HZ8 := Lib.hid (HZ7.out.below hb10)
      go_wp2
      go_ret
      exact ⟨rfl, below_then HBW.out HBW.out.size HZ8.out.hx.bl⟩
end Go.Proofs.Ytopikpjagjnbhaa
