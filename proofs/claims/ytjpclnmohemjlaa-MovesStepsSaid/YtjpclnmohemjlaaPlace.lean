/- Package moves: place (the closure of Plan). -/
import Derived.Test.YtjpclnmohemjlaaPlan
namespace Go.Proofs.Ytjpclnmohemjlaa
open Go.RowKit
theorem placesF_set (lack : List Int) (s x : Nat) (h : lack[s]? = some ((x : Int) + 1)) : placesF s (lack.drop s) = ((s : Int) + 1) :: placesF s ((lack.set s (x : Int)).drop s) := by
  have hs : s < lack.length := (List.getElem?_eq_some_iff.1 h).1
  rw [placesF_drop lack s _ h, placesF_drop (lack.set s (x : Int)) s (x : Int) (by simp [hs])]
  rw [show ((x : Int) + 1).toNat = x + 1 from by omega, List.replicate_succ, Int.toNat_natCast, List.drop_set, if_pos (by omega)]
  rfl
theorem placesF_end (lack : List Int) (s : Nat) (h : lack.length ≤ s) : placesF s (lack.drop s) = [] := by
  rw [List.drop_of_length_le h]; rfl
set_option maxHeartbeats 2000000 in
theorem mplace (ps pl s n : Nat) (v : Value) (lack : List Int) (base : Nat) (w : World) (hps : Box w ps 0 (.int .i64 s)) (hpl : Box w pl 0 v) (ho : w.ownsRow base 3 1 v n (nums .i64 lack)) (hs : s ≤ n) (hn : n ≤ 64)
    (hv : v.ownBlock ≠ some ps) (hv2 : v.ownBlock ≠ some pl) (hne : ps ≠ pl) (hlk : ∀ x ∈ lack, 0 ≤ x ∧ x ≤ 64) :
    Calls Try.prog 28 #[.pointer (some ⟨ps, 0, none⟩), .pointer (some ⟨pl, 0, none⟩)] w fun e w' => ∃ (s' : Nat) (lack' : List Int), e = .returned (.int .i64 ((placesF s (lack.drop s)).headD 0)) ∧ s' ≤ n ∧ Box w' ps 0 (.int .i64 s') ∧ Box w' pl 0 v ∧ w'.ownsRow base 3 1 v n (nums .i64 lack') ∧
      placesF s' (lack'.drop s') = (placesF s (lack.drop s)).tail ∧ Chg (fun k => k = ps ∨ v.ownBlock = some k) w w' ∧ ∀ x ∈ lack', 0 ≤ x ∧ x ≤ 64 := by
  have HLEN : Hid (lack.length = n) := by have := ho.1; rw [nums_length] at this; show _ = _; omega
  have HK := Lib.hid hlk
  clear hlk
  obtain ⟨A, c, rfl⟩ := own_slice ho
  go_enter Try.func28, Try.ntmps28
  go_wp2
  go_loopw [13] (fun z wr => ∃ s1 : Nat, s1 ≤ n ∧ Box wr ps 0 (.int .i64 s1) ∧ Box wr pl 0 (.slice A n c) ∧ wr.ownsRow base 3 1 (.slice A n c) n (nums .i64 lack) ∧ Chg (fun k => k = ps ∨ (Value.slice A n c).ownBlock = some k) w wr ∧ Hid (placesF s1 (lack.drop s1) = placesF s (lack.drop s))) (fun _ wr => n - (intOf ((wr.cell? ⟨ps, 0, none⟩).getD undef)).toNat)
  case atStart => exact ⟨s, hs, hps, hpl, ho, Chg.refl _ _, rfl⟩
  case round =>
    clear hps hpl ho hs
    obtain ⟨s1, hs1, hps, hpl, ho, hch, HP⟩ := hrel
    have hps1 := hps.cell
    have hps2 := hps.free
    have hpl1 := hpl.cell
    have hin : (intOf ((wr.cell? ⟨ps, 0, none⟩).getD undef)).toNat = s1 := by rw [hps1]; simp [intOf]
    have HIN := Lib.hid hin
    clear hin
    by_cases hlt : s1 < n
    · have ho2 := ho
      obtain ⟨h, cap, hf, hbh, hhl⟩ := ho.form (by omega)
      obtain ⟨rfl, rfl⟩ : A = some ⟨h, 0, none⟩ ∧ c = cap := by simpa using hf
      have hlx : s1 < lack.length := by rw [HLEN.out]; exact hlt
      have hg : lack[s1]? = some lack[s1] := List.getElem?_eq_getElem hlx
      obtain ⟨k1, k2⟩ := HK.out lack[s1] (List.getElem_mem hlx)
      generalize lack[s1] = x at hg k1 k2
      obtain ⟨x, rfl⟩ : ∃ y : Nat, x = y := ⟨x.toNat, by omega⟩
      have hc2 := ho.cellAt s1 (by omega)
      rw [getD_nums hg] at hc2
      have hf2 := ho.frozenAt s1
      have hne2 : ps ≠ h := fun e => hv (by rw [e]; rfl)
      have HG := Lib.hid hg
      clear hf hg
      rcases Nat.eq_zero_or_pos x with h0 | h0
      · subst h0
        have hstep : placesF (s1 + 1) (lack.drop (s1 + 1)) = placesF s (lack.drop s) := by
          rw [← HP.out, placesF_drop lack s1 _ HG.out]
          simp
        have HS := Lib.hid hstep
        clear hstep
        go_wp2
        have hbx := hps.set (.int .i64 ((s1 : Int) + 1))
        have hchg : Chg (fun k => k = ps ∨ (Value.slice (some ⟨h, 0, none⟩) n c).ownBlock = some k) wr (wr.setCell ⟨ps, 0, none⟩ (.int .i64 ((s1 : Int) + 1))) := (Chg.refl _ _).setCell ps 0 _ (.inl rfl)
        have hchg1 : Chg (fun k => k = ps) wr (wr.setCell ⟨ps, 0, none⟩ (.int .i64 ((s1 : Int) + 1))) := (Chg.refl _ _).setCell ps 0 _ rfl
        have hpl3 := hpl.keep hchg1 (fun e => hne e.symm)
        have ho3 := hchg1.own ho (fun k hk e => hv (by rw [hk, e]))
        have hch3 := hch.trans hchg
        have hnew := hbx.cell
        have HIN2 := HIN.out
        generalize wr.setCell ⟨ps, 0, none⟩ (.int .i64 ((s1 : Int) + 1)) = w9 at *
        go_roundw
        case rel => exact ⟨s1 + 1, by omega, by simpa using hbx, hpl3, ho3, hch3, HS⟩
        case measure =>
          rw [HIN2]
          simp only [hnew, Option.getD_some, intOf]
          omega
      · obtain ⟨y, rfl⟩ : ∃ y, x = y + 1 := ⟨x - 1, by omega⟩
        have hpl2 := placesF_set lack s1 y (by rw [HG.out]; simp)
        have HPS := Lib.hid hpl2
        clear hpl2
        have hst := ho.stored s1 (.int .i64 (y : Int))
        rw [nums_set] at hst
        have HST := Lib.hid hst
        clear hst
        have hne3 : ((y + 1 : Nat) : Int) ≠ 0 := by omega
        go_wp2
        go_ret
        obtain ⟨ho3, hg3⟩ := HST.out
        have hbx := hps.keep (Chg.of_grown (S := fun k => k = h) hg3 (fun k e => by cases e; rfl)) hne2
        have hpx := hpl.keep (Chg.of_grown (S := fun k => k = h) hg3 (fun k e => by cases e; rfl)) (fun e => hv2 (by rw [e]; rfl))
        refine ⟨s1, lack.set s1 (y : Int), ?_, by omega, hbx, hpx, ho3, ?_, hch.trans (Chg.of_grown hg3 (fun k e => by cases e; exact .inr rfl)), ?_⟩
        · rw [← HP.out, HPS.out]; rfl
        · rw [← HP.out, HPS.out]; rfl
        · intro x hx
          rcases List.mem_or_eq_of_mem_set hx with h1 | h1
          · exact HK.out x h1
          · subst h1
            omega
    · have hse : s1 = n := by omega
      subst hse
      go_wp2
      go_ret
      have hpe : placesF s1 (lack.drop s1) = [] := placesF_end _ _ (by rw [HLEN.out]; exact Nat.le_refl _)
      refine ⟨s1, lack, ?_, Nat.le_refl _, hps, hpl, ho, ?_, hch, HK.out⟩
      · rw [← HP.out, hpe]; rfl
      · rw [← HP.out, hpe]; rfl
end Go.Proofs.Ytjpclnmohemjlaa
