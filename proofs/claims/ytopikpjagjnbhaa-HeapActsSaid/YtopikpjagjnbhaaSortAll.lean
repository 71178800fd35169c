/- The heap's All: its ids, sorted. -/
import Derived.Test.YtopikpjagjnbhaaSortPdq
import Derived.Test.YtopikpjagjnbhaaSortSeq
namespace Go.Proofs.Ytopikpjagjnbhaa
open Go.RowKit
variable {w0 W : World} {hb gk kb n ck g c m : Nat} {ks : List Int} {d : Array Nat}
/-- The ids by keys. -/
def byKeys (ks : List Int) (l : List Nat) : List Nat := l.mergeSort (fun x y => !ltF ks y x)
set_option maxRecDepth 100000 in
set_option maxHeartbeats 4000000 in
/-- A row of ids is sorted. -/
theorem ssort (S : Sa w0 W hb gk kb n ck ks g c m d) (hm : m ≤ 4096) :
    Calls Try.prog 47 #[.slice (some ⟨g, 0, none⟩) m c, ordF hb] W fun e W' => e = .returned (.tuple #[]) ∧ Hid (Sq w0 W' hb gk kb n ck ks g c m (byKeys ks d.toList)) := by
  have hL := blen (m : Int) W (by omega) (by omega)
  rw [show (m : Int).toNat = m from rfl] at hL
  obtain ⟨lim, hlim⟩ : ∃ x, x = Lib.bitLen m := ⟨_, rfl⟩
  have h64 : lim ≤ 64 := by rw [hlim]; have := (bitLen_some m hm).2; omega
  rw [← hlim] at hL
  have HL := Lib.hid hL
  have HP := Lib.hid (spdq hm (m + 1) W d 0 m lim (by omega) S (by omega) (Nat.le_refl _) h64 (.inl rfl))
  have HZ := Lib.hid S.size
  have wm : IntKind.u64.wrap (m : Int) = (m : Int) := by rw [IntKind.wrap_u64]; omega
  clear S hL hlim
  go_enter Try.func47, Try.ntmps47
  go_wp2_with (go_at_call 58; fail)
  refine HL.out.mono ?_
  rintro e w1 ⟨rfl, rfl⟩
  go_wp2_with (go_at_call 57; fail)
  refine HP.out.mono ?_
  rintro e w2 ⟨D, rfl, HD, HS⟩
  go_wp2
  go_end0
  refine ⟨rfl, ?_⟩
  have h1 := Sort.sorted_unique_holds (swoF ks) (antiF ks) d D (by rw [HZ.out]; exact HD.out.1) (by rw [HZ.out]; exact HD.out.2)
  unfold byKeys
  rw [← h1]
  exact HS
set_option maxRecDepth 100000 in
set_option maxHeartbeats 4000000 in
/-- The ids of a slice, in a row of the call's own, sorted. -/
theorem ssorted (Bs b : Nat) (l : List Nat) (cap : Nat) (hl : l.length ≤ 4096) (w : World) (hBs : Bs < w.heap.size) (hbl : b < w.heap.size) (h0 : l ≠ []) (hlt : ∀ x ∈ l, x < n) (K : Kw w hb gk kb n ck ks)
    (hc : w.cell? ⟨Bs, 0, none⟩ = some (.slice (some ⟨b, 0, none⟩) l.length cap)) (hI : ∀ j, j < l.length → w.cell? ⟨b, j, none⟩ = some (.int .i64 ((zs l)[j]?.getD 0))) :
    Calls Try.prog 32 #[.func (.func 48) #[] #[.pointer (some ⟨Bs, 0, none⟩)], ordF hb] w fun e W' => ∃ v, e = .returned v ∧ Hid (W'.ownsRow w.heap.size 3 1 v l.length (nums .i64 (zs (byKeys ks l)))) ∧ Hid (Below w.heap.size w W') := by
  have HC := Lib.hid (qcollect Bs b 0 cap (zs l) (by rw [zs_length]; exact hl) w hBs hbl (by rw [zs_length]; exact hc) (by rw [zs_length]; intro j hj; rw [Nat.zero_add]; exact hI j hj))
  have HK := Lib.hid K
  have HKB := Lib.hid (show hb < w.heap.size ∧ gk < w.heap.size from ⟨K.kb.lt, (K.ko.lt gk rfl).2⟩)
  have HLT := Lib.hid hlt
  have H0 := Lib.hid h0
  clear hc hI K hlt h0
  go_enter Try.func32, Try.ntmps32
  go_wp2_with (go_at_call 46; fail)
  refine HC.out.mono ?_
  rintro e w1 ⟨v, rfl, h1, h2, h3⟩
  obtain ⟨g, cap', rfl⟩ : ∃ g cap', v = .slice (some ⟨g, 0, none⟩) l.length cap' := by
    rw [zs_length] at h1
    rcases h1.2 with ⟨h4, _⟩ | ⟨g, cap', _, h4, _⟩
    · have := h2.1 h4
      exact absurd (by simpa [zs] using this) H0.out
    · exact ⟨g, cap', h4⟩
  have HB1 := Lib.hid h3
  have S1 : Sa w w1 hb gk kb n ck ks g cap' l.length l.toArray := by
    have hg := h1.lt g rfl
    rw [zs_length] at h1
    refine ⟨by simpa [nums] using h1, HK.out.below h3, ⟨?_, ?_⟩, by simpa using HLT.out, h3⟩
    · have := HKB.out.1
      omega
    · have := HKB.out.2
      omega
  have HS := Lib.hid (ssort S1 hl)
  clear h1 h2 h3 S1
  go_wp2_with (go_at_call 47; fail)
  refine HS.out.mono ?_
  rintro e w2 ⟨rfl, H2⟩
  go_wp2
  go_ret
  exact ⟨_, rfl, Lib.hid (by simpa using H2.out.ro), Lib.hid H2.out.bl⟩
set_option maxRecDepth 100000 in
set_option maxHeartbeats 4000000 in
/-- The heap's ids by keys. -/
theorem xall {w0 w : World} {b n : Nat} {h : HV} (H : Hx w0 w b n h) (hn : 0 < n) (hn2 : n ≤ 4096) :
    Calls Try.prog 17 #[.pointer (some ⟨b, 0, none⟩)] w fun e w' => ∃ v, e = .returned v ∧ Hid (w'.ownsRow w.heap.size 3 1 v h.ids.length (nums .i64 (zs (byKeys h.ks h.ids)))) ∧ Hid (Hx w0 w' b n h) ∧ Hid (Below w.heap.size w w') := by
  have HL := Lib.hid (xlen H hn)
  have HX := Lib.hid H
  by_cases h0 : h.ids = []
  · have e0 : h.ids.length = 0 := by rw [h0]; rfl
    rw [e0] at HL
    clear H
    go_enter Try.func17, Try.ntmps17
    go_wp2_with (go_at_call 12; (with_reducible refine HL.out.mono ?_); rintro e w1 ⟨rfl, rfl⟩)
    go_ret
    refine ⟨_, rfl, Lib.hid ?_, HX, Lib.hid (Below.refl _ _)⟩
    rw [h0, show byKeys h.ks [] = [] by simp [byKeys]]
    exact World.ownsRow_nil _ _ _ _
  · have e0 : ¬ (h.ids.length : Int) = 0 := by
      have := List.length_pos_iff.2 h0
      omega
    obtain ⟨gk, gp, ck, cp, iv, H1, H2, H3, H4, H5, H6⟩ := H
    obtain ⟨gi, ci, rfl⟩ : ∃ gi ci, iv = .slice (some ⟨gi, 0, none⟩) h.ids.length ci := by
      rcases H1.io.2 with ⟨h4, h5⟩ | ⟨gi, ci, _, h4, _⟩
      · have := List.length_pos_iff.2 h0
        omega
      · exact ⟨gi, ci, h4⟩
    have k1 := H1.ib.cell
    have hl : h.ids.length ≤ n := by
      rw [← List.length_range (n := n)]
      exact nodup_le n h.ids (nodup_ids H2) (fun y hy => has_lt H2 (has_mem.2 hy)) |> fun h => by simpa using h
    have hlt : ∀ x ∈ h.ids, x < n := fun y hy => has_lt H2 (has_mem.2 hy)
    have hgi := (H1.io.lt gi rfl).2
    obtain ⟨W1, hW1⟩ : ∃ x, x = w.alloc (.cells #[.slice (some ⟨gi, 0, none⟩) h.ids.length ci] 22) := ⟨_, rfl⟩
    have hb1 : Below w.heap.size w W1 := by rw [hW1]; exact below_al (Below.refl _ _) _
    have hsz : W1.heap.size = w.heap.size + 1 := by rw [hW1]; simp
    have HS := Lib.hid (ssorted (hb := b) (gk := gk) (kb := w0.heap.size) (n := n) (ck := ck) (ks := h.ks) w.heap.size gi h.ids ci (by omega) W1 (by omega) (by omega) h0 hlt (H1.kw.below hb1) (by rw [hW1]; simp)
      (fun j hj => by
        have := (rowGet (H1.io) hj).1
        rw [List.getD_eq_getElem?_getD] at this
        exact (cell_below hb1 this)))
    have HV := Lib.hid ((callsIn_wide (n := 5)).1 (qvals 5 (some ⟨gi, 0, none⟩) h.ids.length ci w))
    rw [← hW1] at HV
    have HB1 := Lib.hid hb1
    have HSZ := Lib.hid hsz
    generalize hlen : h.ids.length = len at *
    have HLE := Lib.hid hlen
    clear hlen H1 H2 H3 H4 H5 H6 hl hlt hgi hW1 hb1 hsz h0
    go_enter Try.func17, Try.ntmps17
    go_wp2_with (go_at_call 12; (with_reducible refine HL.out.mono ?_); rintro e w1 ⟨rfl, rfl⟩)
    go_wp2_with (go_at_call 33; fail)
    refine HV.out.mono ?_
    rintro e w2 ⟨rfl, rfl⟩
    go_wp2_with (go_at_call 32; fail)
    refine HS.out.mono ?_
    rintro e w3 ⟨v, rfl, Hv, Hb⟩
    go_wp2
    go_ret
    exact ⟨v, rfl, Lib.hid (own_mono Hv.out (by rw [HSZ.out]; omega)), Lib.hid (HX.out.below (below_then HB1.out HB1.out.size Hb.out)), Lib.hid (below_then HB1.out HB1.out.size Hb.out)⟩
end Go.Proofs.Ytopikpjagjnbhaa
