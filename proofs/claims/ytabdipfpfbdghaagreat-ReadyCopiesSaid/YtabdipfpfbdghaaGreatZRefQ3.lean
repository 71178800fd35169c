/- The reference's queue: who waits, walked. -/
import Derived.Test.YtabdipfpfbdghaaGreatZRefQ2
namespace Go.Proofs.YtabdipfpfbdghaaGreat
open Go.RowKit
variable {w : World} {base mb mg n c : Nat} {now : Int} {rows : List RowQ}
theorem ahead_lt {rows : List RowQ} {x y : Nat} (hx : x < rows.length) (hy : y < rows.length) : aheadV (rows.getD x row0).ps x (rows.getD y row0).ps y = true ↔ ltK (pks rows) x y := by
  unfold aheadV ltK
  rw [pks_get rows x hx, pks_get rows y hy]
  simp only [Bool.or_eq_true, Bool.and_eq_true, decide_eq_true_eq]
  omega
theorem ids_snoc {W : World} {B m : Nat} {v : Value} {l : List Nat} {x : Nat} (h : W.ownsRow B 3 1 v (m + 1) (nums .i64 (zs l) ++ [.int .i64 x])) : W.ownsRow B 3 1 v (m + 1) (nums .i64 (zs (l ++ [x]))) := by
  have e : nums .i64 (zs (l ++ [x])) = nums .i64 (zs l) ++ [.int .i64 x] := by simp [nums, zs]
  rw [e]
  exact h
set_option maxRecDepth 100000 in
set_option maxHeartbeats 8000000 in
/-- Waiting. -/
theorem mwaiting (M : Mq w base mb mg n c now rows) (hn : n ≤ 4096) :
    Calls Tryz.prog 40 #[.pointer (some ⟨mb, 0, none⟩)] w fun e w' => ∃ v, e = .returned v ∧ Hid (w'.ownsRow w.heap.size 3 1 v (wIds rows n).length (nums .i64 (zs (byKeys (pks rows) (wIds rows n))))) ∧ Hid (Below w.heap.size w w') := by
  have HM := Lib.hid M
  have HLN := Lib.hid M.len
  have k1 := M.rb.cell
  clear M
  go_enter Tryz.func40, Tryz.ntmps40
  go_wp2
  go_loopw [3, 12] (fun l i wr => ∃ (j : Nat), j ≤ n ∧ i = .int .i64 j ∧ Hid (wr.ownsRow w.heap.size 3 1 l (wIds rows j).length (nums .i64 (zs (byKeys (pks rows) (wIds rows j))))) ∧ Hid (Below w.heap.size w wr)) (fun _ i _ => n - (intOf i).toNat)
  case atStart => exact ⟨0, Nat.zero_le _, rfl, Lib.hid (by rw [show wIds rows 0 = [] from rfl, show byKeys (pks rows) [] = [] by simp [byKeys]]; exact World.ownsRow_nil _ _ _ _), Lib.hid (Below.refl _ _)⟩
  case round =>
    obtain ⟨j, hjn0, rfl, HO, HB⟩ := hrel
    clear k1
    by_cases hjn : j < n
    · have hjn' : (j : Int) < (n : Int) := by omega
      have hm := wIds_len rows j
      obtain ⟨A, cl, rfl⟩ := own_slice HO.out
      have M1 := HM.out.below HB.out
      obtain ⟨r0, r1, r2, r3⟩ := M1.row hjn
      have c0 := r0.cell
      have c1 := r1.cell
      have c2 := r2.cell
      have c3 := r3.cell
      obtain ⟨r, hr⟩ : ∃ r, rows.getD j row0 = r := ⟨_, rfl⟩
      rw [hr] at c0 c1 c2 c3
      obtain ⟨W5, hW5⟩ : ∃ W5, W5 = wr.alloc (.cells #[.int .i64 r.st, .int .i64 r.tk, .int .i64 r.ps, .int .i64 r.pk] (58 : Nat)) := ⟨_, rfl⟩
      have hal : Below wr.heap.size wr W5 := by rw [hW5]; exact below_al (Below.refl _ _) _
      have x0 : Box W5 wr.heap.size 0 (.int .i64 r.st) := by rw [hW5]; constructor <;> go_simp
      have x2 : Box W5 wr.heap.size 2 (.int .i64 r.ps) := by rw [hW5]; constructor <;> go_simp
      have hs5 : W5.heap.size = wr.heap.size + 1 := by rw [hW5]; simp
      have y0 := x0.cell
      have HO5 := Lib.hid (own_below HO.out hal)
      have HB5 := Lib.hid (below_then HB.out HB.out.size hal)
      have HX2 := Lib.hid x2
      have HS5 := Lib.hid hs5
      have HR := Lib.hid hr
      by_cases hst : r.st = 1
      · have hst' : (r.st != 1) = false := by simp [hst]
        have HST : Hid ((rows.getD j row0).st = 1) := Lib.hid (by rw [hr]; exact hst)
        rw [hst] at c0 y0 hW5
        have hlen := (byKeys_perm' (pks rows) (wIds rows j)).length_eq
        have hwy := wIds_yes HST.out
        obtain ⟨L, hLL⟩ : ∃ L, L = byKeys (pks rows) (wIds rows j) := ⟨_, rfl⟩
        obtain ⟨m, hmm⟩ : ∃ m, m = (wIds rows j).length := ⟨_, rfl⟩
        rw [← hLL, ← hmm] at hlen
        rw [← hLL, ← hmm] at HO5
        rw [← hmm] at hm ⊢
        have HLm := Lib.hid hlen
        have HLL := Lib.hid hLL
        have HMM := Lib.hid hmm
        have HWY := Lib.hid hwy
        obtain ⟨B5, hB5⟩ : ∃ q, q = wr.heap.size := ⟨_, rfl⟩
        have HBQ := Lib.hid hB5
        have hal6 : Below W5.heap.size W5 (W5.alloc (.cells #[.int .i64 (j : Nat)] 3)) := below_al (Below.refl _ _) _
        have HO6 := own_below HO5.out hal6
        have hr6 := rds_lit W5 3 1 1 [.int .i64 (j : Nat)] rfl (by decide)
        rw [hs5] at hr6
        have HB6 := below_then HB5.out HB5.out.size hal6
        have hbx := HX2.out.below hal6
        have hob : ∀ k, (Value.slice A m cl).ownBlock = some k → k < wr.heap.size := fun k e => by
          have := (own_below HO.out (Below.refl _ _))
          rw [← hmm] at this
          exact (this.lt k e).2
        rw [hW5] at HO6 hr6 HB6 hbx
        have hsz6 : w.heap.size ≤ ((wr.alloc (.cells #[.int .i64 1, .int .i64 r.tk, .int .i64 r.ps, .int .i64 r.pk] (58 : Nat))).alloc (.cells #[.int .i64 (j : Nat)] 3)).heap.size := HB6.size
        clear r0 r1 r2 r3 M1 hr hst hst' hLL hmm x0 x2 hlen hwy hs5 hB5
        go_wp2_with (at_builtin; go_loud (refine apn (w0 := (wr.alloc (.cells #[.int .i64 1, .int .i64 r.tk, .int .i64 r.ps, .int .i64 r.pk] (58 : Nat))).alloc (.cells #[.int .i64 (j : Nat)] 3)) w.heap.size rfl _ _ 36 3 _ 1 8 (by rfl) Tryz.underlying36 info_hint rfl (by decide) (by decide) (.slice A m cl) m (nums .i64 (zs L)) _ 1 1 [.int .i64 (j : Nat)] (by rfl) (by rfl) hr6 (by intro u hu; simp at hu; subst hu; rfl) HO6 (Below.refl _ _) hsz6 (by omega) ?_; intro v1 w1 h1 h2 h3 h4; obtain ⟨g1, cc1, rfl⟩ := ownsRow_succ h1))
        have hch := Chg.of_grown (S := fun k => (Value.slice A m cl).ownBlock = some k) h3 (fun k e => e)
        have HRX := Lib.hid (hbx.keep hch (fun e => by have := hob _ e; omega))
        have HO1 := Lib.hid (ids_snoc (show w1.ownsRow w.heap.size 3 1 (.slice (some ⟨g1, 0, none⟩) (m + 1) cc1) (m + 1) (nums .i64 (zs L) ++ [.int .i64 (j : Nat)]) from h1))
        have HB1 := Lib.hid (show Below w.heap.size w w1 from HB6.trans h2)
        have hg5 : wr.heap.size ≠ g1 := by
          intro e
          rcases h4 with h4 | ⟨k, h4, h5⟩
          · have := hob g1 (by rw [← h4]; rfl)
            omega
          · have h6 : g1 = k := by simpa [Value.ownBlock] using h4
            simp at h5
            omega
        rw [← HBQ.out] at HRX hg5
        have HG5 := Lib.hid hg5
        rw [← HBQ.out]
        clear h1 h2 h3 h4 hch hbx hob HO6 hr6 HB6 hsz6 hal6 y0 c0 c1 c2 c3 hal hW5 HX2 HO5 HB5 HS5 hg5 HBQ
        go_wp2
        obtain ⟨WA, rfl⟩ : ∃ x, x = wr := ⟨_, rfl⟩
        clear HO HB
        go_loopw [6] (fun s6 wr => ∃ (k : Nat) (C : List Nat), s6 = .int .i64 k ∧ k ≤ m ∧ Hid (Mid L k C) ∧ Hid (∀ i, k ≤ i → i < m → leK (pks rows) j (L.getD i 0)) ∧ Hid (wr.ownsRow w.heap.size 3 1 (.slice (some ⟨g1, 0, none⟩) (m + 1) cc1) (m + 1) (nums .i64 (zs C))) ∧ Hid (Below w.heap.size w wr) ∧ Hid (Box wr B5 2 (.int .i64 r.ps))) (fun s6 _ => (intOf s6).toNat)
        case atStart => exact ⟨m, L ++ [j], rfl, Nat.le_refl _, Lib.hid (by have := Mid.start L j; rw [HLm.out] at this; exact this), Lib.hid (fun i h1 h2 => by omega), HO1, HB1, HRX⟩
        case round =>
          obtain ⟨k, C, rfl, hkm, HM2, HA2, HO2, HB2, HX3⟩ := hrel
          obtain ⟨WB, rfl⟩ : ∃ x, x = wr := ⟨_, rfl⟩
          by_cases hk0 : k = 0
          · have hd0 : decide ((k : Int) > 0) = false := decide_eq_false (by omega)
            have hd1 : ¬ 0 < k := by omega
            have hd2 : decide (0 < k) = false := decide_eq_false hd1
            go_wp2_with fail
            go_big_region
            have hb7 := below_dr (Below.refl WB.heap.size WB) 1
            change Below _ _ WB.drew at hb7
            replace HO2 := Lib.hid (own_below HO2.out hb7)
            replace HB2 := Lib.hid (below_then HB2.out HB2.out.size hb7)
            clear HX3
            generalize WB.drew = WC at HO2 HB2 ⊢
            have HD1 := Lib.hid hd1
            clear hb7 hd0 hd1 hd2 hk0
            have hk1 : k < m + 1 := by omega
            obtain ⟨q1, q2, q3⟩ := rowGet HO2.out hk1
            have q5 := q3 (j : Nat)
            rw [show (zs C).set k ((j : Nat) : Int) = zs (C.set k j) by simp [zs, List.map_set], HM2.out.fin j] at q5
            have hins := byKeys_ins (ks := pks rows) (l := wIds rows j) (x := j) (k := k) (by rw [← HLL.out, HLm.out]; exact hkm) (fun i h1 h2 => by rw [← HLL.out] at h2 ⊢; exact HA2.out i h1 (by rw [HLm.out] at h2; exact h2)) (fun h0 => by rw [← HLL.out]; exact absurd h0 HD1.out)
            rw [← HLL.out, ← HWY.out] at hins
            rw [hins] at q5
            have c1 : Chg (fun z => z = g1) WC (WC.setCell ⟨g1, k, none⟩ (.int .i64 (j : Nat))) := (Chg.refl _ _).setCell _ _ _ rfl
            have HB3 := Lib.hid (c1.toBelow HB2.out HB2.out.size (fun z e => by rw [e]; exact (HO2.out.lt g1 rfl).1))
            have HO3 := Lib.hid q5
            generalize (zs C).getD k 0 = old at q1
            have hk2 : (k : Int) < (m : Int) + 1 := by omega
            have e1 : (wIds rows (j + 1)).length = m + 1 := by rw [HWY.out, HMM.out]; simp
            rw [← e1] at HO3
            have HE1 := Lib.hid e1
            clear q3 q5 hins c1 e1
            go_wp2
            rw [show m + 1 = (wIds rows (j + 1)).length from HE1.out.symm]
            go_roundw
            case rel => exact ⟨j + 1, by omega, by go_num, HO3, HB3⟩
            case measure => simp only [intOf]; omega
          · have hd0 : decide ((k : Int) > 0) = true := decide_eq_true (by omega)
            have hd1 : 0 < k := by omega
            have hd2 : decide (0 < k) = true := decide_eq_true hd1
            obtain ⟨k1, hk1⟩ : ∃ q, q = k - 1 := ⟨_, rfl⟩
            have zk : (k : Int) - 1 = (k1 : Int) := by omega
            have hk4 : k1 < m ∧ k1 < m + 1 := by omega
            have HKE := Lib.hid (show k = k1 + 1 by omega)
            have wk : IntKind.i64.wrap (k1 : Int) = (k1 : Int) := by rw [IntKind.wrap_i64] <;> omega
            have hk5 : (k1 : Int) < (m : Int) + 1 := by omega
            obtain ⟨p1, p2, p3⟩ := rowGet HO2.out hk4.2
            have hCl := HM2.out.len
            rw [HLm.out] at hCl
            rw [zs_getD _ _ (by omega), HM2.out.lo k1 (by omega)] at p1
            obtain ⟨x, hx⟩ : ∃ q, q = L.getD k1 0 := ⟨_, rfl⟩
            rw [← hx] at p1
            have hxm : x ∈ wIds rows j := by
              rw [hx, HLL.out]
              have hmem : L.getD k1 0 ∈ L := List.mem_of_getElem? (getD_getH L k1 (by rw [HLm.out]; omega))
              have h2 := (byKeys_perm' (pks rows) (wIds rows j)).mem_iff (a := L.getD k1 0)
              rw [← HLL.out] at h2 ⊢
              exact h2.1 hmem
            obtain ⟨hxj, _⟩ := wIds_mem.1 hxm
            have hxn : x < n := by omega
            have hxn' : (x : Int) < (n : Int) := by omega
            have M2 := HM.out.below HB2.out
            have m1 := M2.rb.cell
            have m2 := (M2.row hxn).2.2.1.cell
            have hps : (rows.getD j row0).ps = r.ps := by rw [HR.out]
            have hal2 := ahead_lt (rows := rows) (x := j) (y := x) (by rw [HLN.out]; omega) (by rw [HLN.out]; omega)
            rw [hps] at hal2
            have hah := wahead r.ps (j : Nat) (rows.getD x row0).ps (x : Nat)
            generalize (rows.getD x row0).ps = xp at m2 hal2 hah
            have z1 := fun (p : Behind WB) => cell_below p.hb p1
            have z2 := fun (p : Behind WB) => cell_below p.hb m1
            have z3 := fun (p : Behind WB) => cell_below p.hb m2
            have z4 := fun (p : Behind WB) => cell_below p.hb HX3.out.cell
            have HXX := Lib.hid hx
            cases hav : aheadV r.ps (j : Nat) xp (x : Nat) with
            | true =>
              rw [hav] at hah hal2
              have hlt := hal2.1 rfl
              have q3 := fun (p : Behind WB) => (hah p.W).mono (fun e W' (h : _ ∧ p.W = W') => (⟨h.1, p, h.2.symm⟩ : e = _ ∧ ∃ p' : Behind WB, W' = p'.W))
              have HA3 := Lib.hid (show ∀ i, k1 ≤ i → i < m → leK (pks rows) j (L.getD i 0) from fun i h1 h2 => by
                by_cases e : i = k1
                · rw [e, ← hx]; exact ltK_le hlt
                · exact HA2.out i (by omega) h2)
              clear hah hal2 hav hlt hx hxm hps M2 m1 m2 p1 p2 p3 hCl hk1
              go_wp2_with fail
              refine wp_behind (by kernel_rfl) (by kernel_rfl) ?_
              repeat (quiet_step (exact q3 _))
              refine wpQuiet_nil ?_
              rintro WC ⟨⟨_, hb7⟩, rfl⟩
              replace HO2 := Lib.hid (own_below HO2.out hb7)
              replace HB2 := Lib.hid (below_then HB2.out HB2.out.size hb7)
              replace HX3 := Lib.hid (HX3.out.below hb7)
              clear z1 z2 z3 z4 q3 hb7
              obtain ⟨p1, _, _⟩ := rowGet HO2.out hk4.2
              have hCl := HM2.out.len
              rw [HLm.out] at hCl
              rw [zs_getD _ _ (by omega), HM2.out.lo k1 (by omega), ← HXX.out] at p1
              obtain ⟨p2, p3, p4⟩ := rowGet HO2.out (show k < m + 1 by omega)
              have p5 := p4 (x : Nat)
              generalize (zs C).getD k 0 = old at p2
              rw [show (zs C).set k ((x : Nat) : Int) = zs (C.set k x) by simp [zs, List.map_set]] at p5
              have c1 : Chg (fun z => z = g1) WC (WC.setCell ⟨g1, k, none⟩ (.int .i64 (x : Nat))) := (Chg.refl _ _).setCell _ _ _ rfl
              have HB3 := Lib.hid (c1.toBelow HB2.out HB2.out.size (fun z e => by rw [e]; exact (HO2.out.lt g1 rfl).1))
              have HX4 := Lib.hid (HX3.out.keep c1 HG5.out)
              have HO3 := Lib.hid p5
              have HM3 : Hid (Mid L k1 (C.set k x)) := Lib.hid (by
                have h := HM2.out
                rw [HKE.out] at h ⊢
                rw [HXX.out]
                exact h.step)
              have hk6 : (k : Int) < (m : Int) + 1 := by omega
              clear p4 p5 c1 hCl
              go_wp2
              go_roundw
              case rel => exact ⟨k1, C.set k x, rfl, by omega, HM3, HA3, HO3, HB3, HX4⟩
              case measure => simp only [intOf]; omega
            | false =>
              rw [hav] at hah hal2
              have hnl : leK (pks rows) x j := not_ltK (fun h => by have := hal2.2 h; cases this)
              have q3 := fun (p : Behind WB) => (hah p.W).mono (fun e W' (h : _ ∧ p.W = W') => (⟨h.1, p, h.2.symm⟩ : e = _ ∧ ∃ p' : Behind WB, W' = p'.W))
              have HNL := Lib.hid (show leK (pks rows) (L.getD (k - 1) 0) j by rw [← hk1, ← hx]; exact hnl)
              clear hah hal2 hav hx hxm hps M2 m1 m2 p1 p2 p3 hCl hk1 hnl
              go_wp2_with fail
              refine wp_behind (by kernel_rfl) (by kernel_rfl) ?_
              repeat (quiet_step (exact q3 _))
              refine wpQuiet_nil ?_
              rintro WC ⟨⟨_, hb7⟩, rfl⟩
              replace HO2 := Lib.hid (own_below HO2.out hb7)
              replace HB2 := Lib.hid (below_then HB2.out HB2.out.size hb7)
              clear z1 z2 z3 z4 q3 hb7 HX3 zk wk hk5 hd0 hd2
              have hk1 : k < m + 1 := by omega
              obtain ⟨q1, q2, q3⟩ := rowGet HO2.out hk1
              have q5 := q3 (j : Nat)
              rw [show (zs C).set k ((j : Nat) : Int) = zs (C.set k j) by simp [zs, List.map_set], HM2.out.fin j] at q5
              have hins := byKeys_ins (ks := pks rows) (l := wIds rows j) (x := j) (k := k) (by rw [← HLL.out, HLm.out]; exact hkm) (fun i h1 h2 => by rw [← HLL.out] at h2 ⊢; exact HA2.out i h1 (by rw [HLm.out] at h2; exact h2)) (fun h0 => by rw [← HLL.out]; exact HNL.out)
              rw [← HLL.out, ← HWY.out] at hins
              rw [hins] at q5
              have c1 : Chg (fun z => z = g1) WC (WC.setCell ⟨g1, k, none⟩ (.int .i64 (j : Nat))) := (Chg.refl _ _).setCell _ _ _ rfl
              have HB3 := Lib.hid (c1.toBelow HB2.out HB2.out.size (fun z e => by rw [e]; exact (HO2.out.lt g1 rfl).1))
              have HO3 := Lib.hid q5
              generalize (zs C).getD k 0 = old at q1
              have hk2 : (k : Int) < (m : Int) + 1 := by omega
              have e1 : (wIds rows (j + 1)).length = m + 1 := by rw [HWY.out, HMM.out]; simp
              rw [← e1] at HO3
              have HE1 := Lib.hid e1
              clear q3 q5 hins c1 e1
              go_wp2
              rw [show m + 1 = (wIds rows (j + 1)).length from HE1.out.symm]
              go_roundw
              case rel => exact ⟨j + 1, by omega, by go_num, HO3, HB3⟩
              case measure => simp only [intOf]; omega
      · have hst' : (r.st != 1) = true := by simp [hst]
        have HNO := Lib.hid (wIds_no (rows := rows) (j := j) (by rw [hr]; exact hst))
        have HO6 : Hid (W5.ownsRow w.heap.size 3 1 (.slice A (wIds rows j).length cl) (wIds rows (j + 1)).length (nums .i64 (zs (byKeys (pks rows) (wIds rows (j + 1)))))) := Lib.hid (by rw [HNO.out]; exact HO5.out)
        generalize (wIds rows j).length = m at hm HO6 ⊢
        generalize r.st = st at c0 y0 hst' hW5
        clear r0 r1 r2 r3 M1 hr hst x0 x2 hs5 HO5 HO
        rw [hW5] at y0 HO6 HB5
        go_wp2
        go_roundw
        case rel => exact ⟨j + 1, by omega, by go_num, HO6, HB5⟩
        case measure => simp only [intOf]; omega
    · obtain rfl : n = j := by omega
      obtain ⟨A, cl, rfl⟩ := own_slice HO.out
      go_wp2
      go_ret
      exact ⟨_, rfl, HO, HB⟩
end Go.Proofs.YtabdipfpfbdghaaGreat
