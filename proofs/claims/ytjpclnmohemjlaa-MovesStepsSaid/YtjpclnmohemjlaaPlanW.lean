/- Package moves: Plan. -/
import Derived.Test.YtjpclnmohemjlaaPlace
namespace Go.Proofs.Ytjpclnmohemjlaa
open Go.RowKit
theorem info_move : (Try.prog.info? 40).map (fun i => (i.zero, i.size, i.bytes)) = some (some (.agg #[.int .i64 0, .int .i64 0, .int .i64 0]), 3, 24) := by kernel_rfl
theorem cntL_bd (os : List Int) (n : Nat) : ∀ x ∈ cntL os n, 0 ≤ x ∧ x ≤ os.length := by
  intro x hx
  unfold cntL at hx
  obtain ⟨i, _, rfl⟩ := List.mem_map.1 hx
  have := List.count_le_length (a := (i : Int) + 1) (l := os)
  omega
theorem moreL_bd {os ts : List Int} {n : Nat} (h1 : os.length ≤ 64) (h2 : ∀ t ∈ ts, 0 ≤ t) : ∀ k ∈ moreL (cntL os n) ts, 0 ≤ k ∧ k ≤ 64 := by
  intro k hk
  unfold moreL at hk
  obtain ⟨i, hi, rfl⟩ := List.getElem_of_mem hk
  rw [List.getElem_zipWith]
  rw [List.length_zipWith] at hi
  have h4 : i < ts.length := by omega
  have h5 : i < (cntL os n).length := by omega
  have h6 := h2 ts[i] (List.getElem_mem h4)
  have h7 := cntL_bd os n _ (List.getElem_mem h5)
  omega
theorem enough_le : ∀ {ts : List Int} {c : Int}, enoughB c ts = true → (∀ t ∈ ts, 0 ≤ t) → ∀ t ∈ ts, t ≤ c
  | [], _, _, _ => by simp
  | t :: ts, c, h, h2 => by
    simp only [enoughB] at h
    split at h
    · cases h
    · have h3 := enough_le h (fun t' ht' => h2 t' (by simp [ht']))
      have h4 := h2 t (by simp)
      intro t' ht'
      simp only [List.mem_cons] at ht'
      rcases ht' with rfl | ht'
      · omega
      · have := h3 t' ht'
        omega
theorem lackL_bd {os ts : List Int} {n : Nat} (h2 : ∀ t ∈ ts, 0 ≤ t ∧ t ≤ 64) : ∀ k ∈ lackL (cntL os n) ts, 0 ≤ k ∧ k ≤ 64 := by
  intro k hk
  unfold lackL at hk
  obtain ⟨i, hi, rfl⟩ := List.getElem_of_mem hk
  rw [List.getElem_zipWith]
  rw [List.length_zipWith] at hi
  have h4 : i < ts.length := by omega
  have h5 : i < (cntL os n).length := by omega
  have h6 := h2 ts[i] (List.getElem_mem h4)
  have h7 := cntL_bd os n _ (List.getElem_mem h5)
  omega
set_option maxRecDepth 100000 in
set_option maxHeartbeats 4000000 in
theorem mplan (A : Option Addr) (m c : Nat) (os : List Int) (B : Option Addr) (n d : Nat) (ts : List Int) (w : World) (hr : Rds w 1 A m c (nums .i64 os)) (hr2 : Rds w 1 B n d (nums .i64 ts)) (hti : ∀ t ∈ ts, I64 t) :
    Calls Try.prog 18 #[.slice A m c, .slice B n d] w fun e w' => (∃ v, e = .returned v ∧ w'.ownsRow w.heap.size 40 3 v (planV os ts).length (mvs (planV os ts))) ∧ Below w.heap.size w w' := by
  have HG := Lib.hid (fun W h1 h2 => mright A m c os B n d ts W h1 h2)
  have HN := Lib.hid (nums_inj_len hr)
  have HM := Lib.hid (nums_inj_len hr2)
  cases hg : rightB os ts with
  | false =>
    have HV : Hid (planV os ts = []) := by show _ = _; unfold planV; rw [hg]; rfl
    rw [hg] at HG
    clear hg
    go_enter Try.func18, Try.ntmps18
    go_wp2_with (go_at_call 23; refine (HG.out _ hr hr2).mono ?_; rintro e w1 ⟨rfl, hb1⟩)
    go_ret
    refine ⟨⟨_, rfl, ?_⟩, hb1⟩
    rw [HV.out]
    exact World.ownsRow_nil _ _ _ _
  | true =>
    obtain ⟨⟨g1, g2, g3, g4⟩, g5⟩ := rightB_iff.1 hg
    have hm64 : m ≤ 64 := by rw [← HN.out]; exact g1
    have hn64 : n ≤ 64 := by have := HM.out; omega
    have hE0 := fun W h => menough (m : Int) B n d ts W h (by unfold I64; omega) g5 (by omega)
    cases he : enoughB m ts with
    | false =>
      have HV : Hid (planV os ts = []) := by show _ = _; unfold planV; rw [hg, HN.out, he]; rfl
      rw [hg] at HG
      rw [he] at hE0
      have HE := Lib.hid hE0
      clear hg he hE0 g5 g4
      go_enter Try.func18, Try.ntmps18
      go_wp2_with (first | (go_at_call 23; refine (HG.out _ hr hr2).mono ?_; rintro e w1 ⟨rfl, hb1⟩) | (go_at_call 27; refine (HE.out _ (hr2.below hb1)).mono ?_; rintro e w1 ⟨rfl, rfl⟩))
      go_ret
      refine ⟨⟨_, rfl, ?_⟩, hb1⟩
      rw [HV.out]
      exact World.ownsRow_nil _ _ _ _
    | true =>
      have hml := moreL_bd (n := ts.length) g1 g5
      have hle := enough_le he g5
      have hll := lackL_bd (os := os) (n := ts.length) (fun t ht => ⟨g5 t ht, Int.le_trans (hle t ht) (by omega)⟩)
      have hnv : needV os ts = (moreL (cntL os ts.length) ts, lackL (cntL os ts.length) ts) := by unfold needV; rw [hg]; rfl
      have hm1 : (moreL (cntL os ts.length) ts).length = n := by simp [moreL, cntL_length, HM.out]
      have hl1 : (lackL (cntL os ts.length) ts).length = n := by simp [lackL, cntL_length, HM.out]
      have hpv : planV os ts = movesC os (coresV os (moreL (cntL os ts.length) ts)) (placesV (lackL (cntL os ts.length) ts)) := by unfold planV; rw [hg, HN.out, he, hnv]; rfl
      have hNE0 := fun W h1 h2 => mneed A m c os B n d ts W h1 h2 hti
      unfold Needs at hNE0
      rw [hnv] at hNE0
      simp only [hm1, hl1] at hNE0
      generalize moreL (cntL os ts.length) ts = more at hml hm1 hpv hNE0
      generalize lackL (cntL os ts.length) ts = lack at hll hl1 hpv hNE0
      have HNE := Lib.hid hNE0
      have HPV := Lib.hid hpv
      have HML := Lib.hid hml
      have HLL := Lib.hid hll
      have HM1 := Lib.hid hm1
      have HL1 := Lib.hid hl1
      have hci := coresV_in os more
      have HCI := Lib.hid hci
      rw [hg] at HG
      rw [he] at hE0
      have HE := Lib.hid hE0
      clear hg he hE0 g5 g4 hml hll hnv hpv hNE0 hm1 hl1 hle hci hti
      go_enter Try.func18, Try.ntmps18
      go_wp2_with (first | (go_at_call 23; refine (HG.out _ hr hr2).mono ?_; rintro e w1 ⟨rfl, hb1⟩) | (go_at_call 27; refine (HE.out _ (hr2.below hb1)).mono ?_; rintro e w1 ⟨rfl, rfl⟩) | (go_at_call 9; refine (HNE.out _ (hr.below hb1) (hr2.below hb1)).mono ?_; rintro e w2 ⟨⟨v, u, rfl, hvm, hul, hvu⟩, hb2⟩; obtain ⟨MA, mc, rfl⟩ := own_slice hvm; obtain ⟨LA, lc, rfl⟩ := own_slice hul))
      have hbw2 : Below w.heap.size w w2 := below_tr hb1 hb2
      have hvm1 := (own_rds' hvm).2
      have hul1 := own_mono hul hb1.size
      obtain ⟨W, hW⟩ : ∃ W, W = (w2.alloc (.cells #[.slice LA n lc] 22)).alloc (.cells #[.int .i64 0] 3) := ⟨_, rfl⟩
      have hal : Below w2.heap.size w2 W := by rw [hW]; exact below_al (below_al (Below.refl _ _) _) _
      have hPL : Box W w2.heap.size 0 (.slice LA n lc) := by rw [hW]; exact (Box.new w2 _ _).below (below_al (Below.refl _ _) _)
      have hPS : Box W (w2.heap.size + 1) 0 (.int .i64 ((0 : Nat) : Int)) := by rw [hW]; have := Box.new (w2.alloc (.cells #[.slice LA n lc] 22)) (.int .i64 0) 3; simpa using this
      rw [← hW]
      have hlW : W.heap.size = w2.heap.size + 2 := by rw [hW]; simp
      obtain ⟨pl, hpl⟩ : ∃ x, x = w2.heap.size := ⟨_, rfl⟩
      obtain ⟨ps, hps⟩ : ∃ x, x = w2.heap.size + 1 := ⟨_, rfl⟩
      have eps : Value.pointer (some ⟨w2.heap.size + 1, 0, none⟩) = Value.pointer (some ⟨ps, 0, none⟩) := by rw [hps]
      have epl : Value.pointer (some ⟨w2.heap.size, 0, none⟩) = Value.pointer (some ⟨pl, 0, none⟩) := by rw [hpl]
      rw [eps, epl]
      rw [← hpl] at hPL
      rw [← hps] at hPS
      have hrW := (hr.below (below_tr hbw2 hal))
      have hvmW := hvm1.below hal
      have hulW := own_below hul1 hal
      have hlow : ∀ k, (Value.slice LA n lc).ownBlock = some k → w.heap.size ≤ k ∧ k < pl := by
        intro k hk
        have h1 := own_base hul1 k hk
        have h2 := (hul1.lt k hk).2
        omega
      have hsz := hbw2.size
      have hWW : Below w.heap.size w W := below_tr hbw2 hal
      have hne : ps ≠ pl := by omega
      have hplps : pl < ps := by omega
      have hpsW : ps < W.heap.size := hPS.lt
      have hplW : pl < W.heap.size := hPL.lt
      have hwps : w.heap.size ≤ ps := by omega
      clear eps epl hW hvm1 hul1 hvm hul hbw2 hal hb1 hb2 hvu
      clear hps hpl hlW hsz
      have eg : ∀ args w, (callFunc 28 args).run Try.prog w = .ok (.enter 28 args) w := Go.Proofs.enters_of Try.func28 (by kernel_rfl) rfl
      have EG := Lib.hid eg
      clear eg
      refine (mgoing A m c os MA n mc more W hrW hvmW hm64 hn64 HML.out).mono ?_
      rintro e3 w3 ⟨⟨C, l, f, rfl, hrC, hl8, hnC⟩, hb3⟩
      have hPL3 := hPL.below hb3
      have hPS3 := hPS.below hb3
      have hul3 := own_below hulW hb3
      have hW3 := below_tr hWW hb3
      have hr3 := hrW.below hb3
      have hs3 := hb3.size
      have HLC := Lib.hid (nums_inj_len hrC)
      have HNC := Lib.hid hnC
      clear hPL hPS hulW hWW hrW hb3 hvmW hnC
      go_wp2
      go_loopw [9, 35] (fun o j wr => ∃ (j0 s : Nat) (lk : List Int) (done : List Mv), j0 ≤ l ∧ j = .int .i64 j0 ∧ s ≤ n ∧ Box wr ps 0 (.int .i64 s) ∧ Box wr pl 0 (.slice LA n lc) ∧ wr.ownsRow w.heap.size 3 1 (.slice LA n lc) n (nums .i64 lk) ∧
          wr.ownsRow w3.heap.size 40 3 o done.length (mvs done) ∧ done.length ≤ j0 ∧ Chg (fun k => k = ps ∨ (Value.slice LA n lc).ownBlock = some k ∨ w3.heap.size ≤ k) w3 wr ∧ Hid (∀ x ∈ lk, 0 ≤ x ∧ x ≤ 64) ∧
          Hid (done ++ movesC os ((coresV os more).drop j0) (placesF s (lk.drop s)) = planV os ts)) (fun _ j _ => l - (intOf j).toNat)
      case atStart => exact ⟨0, 0, lack, [], Nat.zero_le _, rfl, Nat.zero_le _, hPS3, hPL3, hul3, World.ownsRow_nil _ _ _ _, Nat.le_refl _, Chg.refl _ _, HLL, by show _ = _; rw [HPV.out]; rfl⟩
      case round =>
        obtain ⟨j0, s, lk, done, hj, rfl, hs, hps, hpl, hlr, hor, hdl, hch, HLK, HST⟩ := hrel
        clear hPS3 hPL3 hul3
        by_cases hlt : j0 < l
        · have hjx : j0 < (coresV os more).length := by rw [HLC.out]; exact hlt
          obtain ⟨cd, rfl⟩ := hrC.some_ (by omega)
          have hc0 := hrC.cell cd rfl j0 _ (nums_get .i64 _ j0 hjx)
          have hcb : (cd.add j0).block = cd.block := by unfold Addr.add; split <;> rfl
          have hcW := HNC.out cd rfl
          have hclt := World.block_lt_of_cell? w3 _ hc0
          have hc1 := hch.cell hc0 (by
            rw [hcb] at hclt ⊢
            rintro (h | h | h)
            · omega
            · have := hlow _ h; omega
            · omega)
          have hst := HST.out
          rw [List.drop_eq_getElem_cons hjx] at hst
          obtain ⟨k1, k2⟩ := HCI.out _ (List.getElem_mem hjx)
          generalize (coresV os more)[j0] = x at hc0 hc1 hst k1 k2
          obtain ⟨x, rfl⟩ : ∃ y : Nat, x = y := ⟨x.toNat, by omega⟩
          have hxo : x < os.length := by omega
          have hxm : x < m := by rw [← HN.out]; exact hxo
          obtain ⟨ad, rfl⟩ := hr.some_ (by omega)
          have ho0 := hr.cell ad rfl x _ (nums_get .i64 os x hxo)
          have holt := World.block_lt_of_cell? w _ ho0
          have ho3 := hr3.cell ad rfl x _ (nums_get .i64 os x hxo)
          have hog : os[x]? = some os[x] := List.getElem?_eq_getElem hxo
          simp only [movesC, Int.toNat_natCast, hog, Option.getD_some] at hst
          generalize os[x] = o at ho0 ho3 hst
          have hpc := mplace ps pl s n (.slice LA n lc) lk w.heap.size wr hps hpl hlr hs hn64 (fun h => by have := hlow _ h; omega) (fun h => by have := hlow _ h; omega) hne HLK.out
          generalize (placesF s (lk.drop s)).tail = tl at hst hpc
          generalize (placesF s (lk.drop s)).headD 0 = tw at hst hpc
          have HST2 := Lib.hid hst
          have HPC := Lib.hid hpc
          have eg := EG.out
          clear hst hpc hog HST hc0 ho0
          have post : ∀ (w4 : World) (o9 : Value) (d2 : List Mv) (s4 : Nat) (lk4 : List Int), s4 ≤ n → Box w4 ps 0 (.int .i64 s4) → Box w4 pl 0 (.slice LA n lc) → w4.ownsRow w.heap.size 3 1 (.slice LA n lc) n (nums .i64 lk4) →
              placesF s4 (lk4.drop s4) = tl → (∀ x ∈ lk4, 0 ≤ x ∧ x ≤ 64) → w4.ownsRow w3.heap.size 40 3 o9 (done ++ d2).length (mvs (done ++ d2)) → d2.length ≤ 1 → d2 = (if tw = o then [] else [⟨x, o, tw⟩]) → Chg (fun k => k = ps ∨ (Value.slice LA n lc).ownBlock = some k ∨ w3.heap.size ≤ k) wr w4 →
              ∃ (j1 s1 : Nat) (lk1 : List Int) (done1 : List Mv), j1 ≤ l ∧ Value.int .i64 ((j0 : Int) + 1) = .int .i64 j1 ∧ s1 ≤ n ∧ Box w4 ps 0 (.int .i64 s1) ∧ Box w4 pl 0 (.slice LA n lc) ∧ w4.ownsRow w.heap.size 3 1 (.slice LA n lc) n (nums .i64 lk1) ∧
              w4.ownsRow w3.heap.size 40 3 o9 done1.length (mvs done1) ∧ done1.length ≤ j1 ∧ Chg (fun k => k = ps ∨ (Value.slice LA n lc).ownBlock = some k ∨ w3.heap.size ≤ k) w3 w4 ∧ Hid (∀ x ∈ lk1, 0 ≤ x ∧ x ≤ 64) ∧
              Hid (done1 ++ movesC os ((coresV os more).drop j1) (placesF s1 (lk1.drop s1)) = planV os ts) := by
            intro w4 o9 d2 s4 lk4 a1 a2 a3 a4 a5 a6 a7 a8 a9 a10
            refine ⟨j0 + 1, s4, lk4, done ++ d2, by omega, by go_num, a1, a2, a3, a4, a7, by simp; omega, hch.trans a10, a6, ?_⟩
            show _ = _
            rw [← HST2.out, a5, List.append_assoc, a9]
          have POST := Lib.hid post
          clear post
          have HO4 : Hid (∀ w4, Chg (fun k => k = ps ∨ (Value.slice LA n lc).ownBlock = some k) wr w4 → w4.cell? (ad.add x) = some (.int .i64 o)) := by
            intro w4 p6
            refine (hch.trans (p6.mono (fun k _ h => h.elim .inl (fun h => .inr (.inl h))))).cell ho3 ?_
            have hab : (ad.add x).block = ad.block := by unfold Addr.add; split <;> rfl
            rw [hab] at holt ⊢
            rintro (h | h | h)
            · omega
            · have := hlow _ h; omega
            · omega
          have HR4 : Hid (∀ w4, Chg (fun k => k = ps ∨ (Value.slice LA n lc).ownBlock = some k) wr w4 → w4.ownsRow w3.heap.size 40 3 u9 done.length (mvs done)) := by
            intro w4 p6
            refine p6.own hor (fun k hk h => ?_)
            have h1 := own_base hor k hk
            rcases h with h | h
            · omega
            · have := hlow _ h; omega
          have HS4 : Hid (∀ w4, Chg (fun k => k = ps ∨ (Value.slice LA n lc).ownBlock = some k) wr w4 → w3.heap.size ≤ w4.heap.size) := fun w4 p6 => Nat.le_trans hch.size p6.size
          clear ho3 hor
          by_cases hto : tw = o
          · have hnb : (tw != o) = false := by simp [hto]
            have HTO := Lib.hid hto
            clear hto
            go_wp2_with (go_at_fn 28; refine HPC.out.mono ?_; rintro e4 w4 ⟨s4, lk4, rfl, p1, p2, p3, p4, p5, p6, p7⟩; have ho4 := HO4.out w4 p6)
            go_roundw
            case rel => exact POST.out _ _ [] s4 lk4 p1 p2 p3 p4 p5 p7 (by simpa using HR4.out _ p6) (by simp) (by rw [if_pos HTO.out]) (p6.mono (fun k _ h => h.elim .inl (fun h => .inr (.inl h))))
            case measure => simp [intOf]; omega
          · have hnb : (tw != o) = true := by simp [hto]
            have HTO := Lib.hid hto
            clear hto
            go_wp2_with (first | (go_at_fn 28; refine HPC.out.mono ?_; rintro e4 w4 ⟨s4, lk4, rfl, p1, p2, p3, p4, p5, p6, p7⟩; have ho4 := HO4.out w4 p6) | (at_builtin; refine apk (W := w4) (w0 := w4) w3.heap.size rfl _ _ 30 40 _ 3 24 (by rfl) Try.underlying30 info_move rfl (by decide) (by decide) _ done.length (mvs done) (mvC ⟨x, o, tw⟩) (by rfl) (by rfl) rfl (by intro u hu; simp [mvC] at hu; rcases hu with rfl | rfl | rfl <;> rfl) (HR4.out w4 p6) (Below.refl _ _) (HS4.out w4 p6) (by omega) ?_; intro v5 w5 q1 q2 q3 q4))
            have hup : Chg (fun k => w3.heap.size ≤ k) w4 w5 := ⟨q2.os, q2.tape, q2.output, q2.size, fun k hk hn => q2.block k (by omega)⟩
            have hor5 : w5.ownsRow w3.heap.size 40 3 v5 (done ++ [(⟨x, o, tw⟩ : Mv)]).length (mvs (done ++ [(⟨x, o, tw⟩ : Mv)])) := by
              rw [mvs_append, mvs_one, List.length_append]
              exact q1
            go_roundw
            case rel => exact POST.out _ _ [⟨x, o, tw⟩] s4 lk4 p1 (p2.keep hup (by omega)) (p3.keep hup (by omega)) (hup.own p4 (fun k hk h => by have := hlow k hk; omega)) p5 p7 hor5 (by simp) (by rw [if_neg HTO.out]) ((p6.mono (fun k _ h => h.elim .inl (fun h => .inr (.inl h)))).trans (hup.mono (fun k _ h => .inr (.inr h))))
            case measure => simp [intOf]; omega
        · have hjl : j0 = l := by omega
          subst hjl
          go_wp2
          go_ret
          refine ⟨⟨_, rfl, ?_⟩, ?_⟩
          · have hfin := HST.out
            rw [List.drop_of_length_le (by rw [HLC.out]; exact Nat.le_refl _)] at hfin
            simp only [movesC, List.append_nil] at hfin
            rw [← hfin]
            exact own_mono hor hW3.size
          · exact hch.toBelow hW3 hW3.size (by
              rintro k (h | h | h)
              · omega
              · exact (hlow _ h).1
              · have := hW3.size; omega)
end Go.Proofs.Ytjpclnmohemjlaa
