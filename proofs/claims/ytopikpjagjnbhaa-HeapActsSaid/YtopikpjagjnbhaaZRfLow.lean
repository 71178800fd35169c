/- The document's heap: Lower. -/
import Derived.Test.YtopikpjagjnbhaaZRfBase
import Derived.Test.YtopikpjagjnbhaaZDigSum
namespace Go.Proofs.Ytopikpjagjnbhaa
open Go.RowKit
variable {w : World} {base mb : Nat} {most : Int} {v1 v2 : Value} {ids : List Nat} {keys : List Int}
theorem map_snoc (keys : List Int) (by_ : Int) (j : Nat) (hj : j < keys.length) : (keys.take (j + 1)).map (· - by_) = (keys.take j).map (· - by_) ++ [keys.getD j 0 - by_] := by
  rw [List.take_succ_eq_append_getElem hj, List.map_append]
  simp [List.getD_eq_getElem?_getD, hj]
/-- What Lower leaves: the things stay as they are. -/
def RL (w : World) (base mb : Nat) (most : Int) (v1 : Value) (ids : List Nat) (keys : List Int) (w' : World) : Prop := ∃ u2, Rf w' base mb most v1 u2 ids keys ∧ Chg (fun k => k = mb) w w' ∧ (∀ k, u2.ownBlock = some k → w.heap.size ≤ k)
theorem rf_low {W : World} {u : Value} {keys' : List Int} {n : Nat} (hn : ids.length = n) (R : Rf w base mb most v1 v2 ids keys) (hb : Below w.heap.size w W) (ho : W.ownsRow w.heap.size 3 1 u n (nums .i64 keys')) : RL w base mb most v1 ids keys' (W.setCell ⟨mb, 2, none⟩ u) := by
  have hml := R.mo.lt
  have hub : ∀ k, u.ownBlock = some k → w.heap.size ≤ k := fun k e => own_base ho k e
  have c1 : Chg (fun k => k = mb) W (W.setCell ⟨mb, 2, none⟩ u) := (Chg.refl _ _).setCell _ _ _ rfl
  have R1 := R.below hb
  have hlb := R.lb
  refine ⟨u, ⟨R1.mo.set_other _ (by decide), R1.ib.set_other _ (by decide), R1.kb.set _, c1.own R1.io (fun k e e2 => R.n1 (by rw [← e2]; exact e)), ?_, R.n1, fun e => by have := hub mb e; omega, R.lb⟩, (Chg.of_below hb).trans c1, hub⟩
  rw [hn]
  exact c1.own (own_mono ho (by omega)) (fun k e => by have := hub k e; omega)
set_option maxRecDepth 100000 in
set_option maxHeartbeats 8000000 in
theorem rflow (R : Rf w base mb most v1 v2 ids keys) (by_ : Int) (hby : I64 by_) (hk : ∀ j, j < ids.length → I64 (keys.getD j 0)) (hn : ids.length ≤ 4096) :
    Calls Try.prog 39 #[.pointer (some ⟨mb, 0, none⟩), .int .i64 by_] w fun e w' =>
      (e = .returned (.int .i64 0) ∧ Hid (∀ j, j < ids.length → I64 (keys.getD j 0 - by_)) ∧ Hid (RL w base mb most v1 ids (keys.map (· - by_)) w')) ∨
      (e = .returned (.int .i64 8) ∧ Hid (¬ ∀ j, j < ids.length → I64 (keys.getD j 0 - by_)) ∧ Hid (Below w.heap.size w w')) := by
  have HR := Lib.hid R
  obtain ⟨n, hnl⟩ : ∃ n, ids.length = n := ⟨_, rfl⟩
  have HNL := Lib.hid hnl
  have HKL : Hid (keys.length = n) := Lib.hid (by rw [← hnl]; exact R.klen)
  have hko := R.ko
  rw [hnl] at hn hk hko ⊢
  obtain ⟨A, c, rfl⟩ := own_slice hko
  have HKO := Lib.hid hko
  have k1 := R.kb.cell
  have HK := Lib.hid hk
  have HBY := Lib.hid hby
  clear R hnl hk hko hby
  go_enter Try.func39, Try.ntmps39
  go_wp2
  clear k1
  go_loopw [5, 15] (fun l s wr => ∃ (j : Nat), j ≤ n ∧ s = .int .i64 j ∧ Hid (∀ i, i < j → I64 (keys.getD i 0 - by_)) ∧ Hid (wr.ownsRow w.heap.size 3 1 l j (nums .i64 ((keys.take j).map (· - by_)))) ∧ Hid (Below w.heap.size w wr)) (fun _ s _ => n - (intOf s).toNat)
  case atStart => exact ⟨0, Nat.zero_le _, rfl, Lib.hid (fun i h => absurd h (Nat.not_lt_zero _)), Lib.hid (World.ownsRow_nil _ _ _ _), Lib.hid (Below.refl _ _)⟩
  case round =>
    obtain ⟨j, hj, rfl, HFI, HO, HB⟩ := hrel
    obtain ⟨B1, c1, rfl⟩ := own_slice HO.out
    by_cases hjn : j < n
    · have hjn' : (j : Int) < (n : Int) := by omega
      obtain ⟨g, cx, hA⟩ := own_at HKO.out (by omega)
      cases hA
      have p1 := cell_below HB.out (rowGet HKO.out hjn).1
      have hkj := HK.out j hjn
      have hsn := map_snoc keys by_ j (by rw [HKL.out]; exact hjn)
      obtain ⟨kj, hkk⟩ : ∃ y, keys.getD j 0 = y := ⟨_, rfl⟩
      rw [hkk] at p1 hkj hsn
      have HSN := Lib.hid hsn
      have HKK := Lib.hid hkk
      have HD := Lib.hid (fun W => dSub kj by_ W hkj HBY.out)
      clear hsn hkk hkj
      by_cases hf : I64 (kj - by_)
      · rw [(fit_yes hf).1, (fit_yes hf).2] at HD
        have HF := Lib.hid hf
        obtain ⟨y, hy⟩ : ∃ y, kj - by_ = y := ⟨_, rfl⟩
        rw [hy] at HD HSN
        clear hf hy
        go_wp2_with (first
          | (go_at_call 53; (with_reducible refine (HD.out _).mono ?_); rintro e w1 ⟨rfl, hb1⟩; have hal := below_al (Below.refl w1.heap.size w1) (.cells #[.int .i64 y] 3); have HO1 := own_below (own_below HO.out hb1) hal; have HB1 := below_then (below_then HB.out HB.out.size hb1) (Nat.le_trans HB.out.size hb1.size) hal; have hr6 := rds_lit w1 3 1 1 [.int .i64 y] rfl (by decide))
          | (at_builtin; go_loud (refine apn (w0 := w1.alloc (.cells #[.int .i64 y] 3)) w.heap.size rfl _ _ 22 3 _ 1 8 (by rfl) Try.underlying22 info_hint rfl (by decide) (by decide) (.slice B1 j c1) j (nums .i64 ((keys.take j).map (· - by_))) _ 1 1 [.int .i64 y] (by rfl) (by rfl) hr6 (by intro u hu; simp at hu; subst hu; rfl) HO1 (Below.refl _ _) HB1.size (by omega) ?_; intro v1 w2 h1 h2 h3 h4; have HO2 := Lib.hid h1; have HB2 := Lib.hid (HB1.trans h2); obtain ⟨g1, cc1, rfl⟩ := own_at (xs := (keys.take j).map (· - by_) ++ [y]) (by rw [nums_append]; exact h1) (Nat.succ_pos j); clear h1 h2 h3 h4 HO1 HB1 hr6 hal hb1)))
        have HO3 : Hid (w2.ownsRow w.heap.size 3 1 (.slice (some ⟨g1, 0, none⟩) (j + 1) cc1) (j + 1) (nums .i64 ((keys.take (j + 1)).map (· - by_)))) := Lib.hid (by rw [HSN.out, nums_append]; exact HO2.out)
        have HFI2 : Hid (∀ i, i < j + 1 → I64 (keys.getD i 0 - by_)) := Lib.hid (fun i h => by
          by_cases e : i = j
          · rw [e, HKK.out]; exact HF.out
          · exact HFI.out i (by omega))
        clear HO2
        go_roundw
        case rel => exact ⟨j + 1, by omega, by go_num, HFI2, HO3, HB2⟩
        case measure => simp only [intOf]; omega
      · have hno := fit_no hf
        rw [hno.2] at HD
        generalize fitV (kj - by_) = y at HD
        have HNF : Hid (¬ ∀ j, j < n → I64 (keys.getD j 0 - by_)) := Lib.hid (fun h => hf (by have h2 := h j hjn; rw [HKK.out] at h2; exact h2))
        clear hno hf
        go_wp2_with (go_at_call 53; (with_reducible refine (HD.out _).mono ?_); rintro e w1 ⟨rfl, hb1⟩; have HB1 := Lib.hid (below_then HB.out HB.out.size hb1); clear hb1)
        go_ret
        exact .inr ⟨rfl, HNF, HB1⟩
    · obtain rfl : n = j := by omega
      have hjn' : ¬ (n : Int) < (n : Int) := by omega
      have hkt : keys.take n = keys := by rw [← HKL.out]; exact List.take_length
      rw [hkt] at HO
      have hkb := HR.out.kb.below HB.out
      have c0 := hkb.cell
      have f0 := hkb.free
      have HRL := Lib.hid (rf_low HNL.out HR.out HB.out HO.out)
      clear hkb hkt
      go_wp2
      go_ret
      exact .inl ⟨rfl, HFI, HRL⟩
end Go.Proofs.Ytopikpjagjnbhaa
