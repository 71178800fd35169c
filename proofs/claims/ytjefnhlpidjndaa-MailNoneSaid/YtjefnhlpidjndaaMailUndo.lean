/- Package mail: Undo. -/
import Derived.Test.YtjefnhlpidjndaaMailTake
namespace Go.Proofs.Ytjefnhlpidjndaa
open Go.RowKit
set_option maxRecDepth 100000 in
set_option maxHeartbeats 8000000 in
theorem mundo (b base : Nat) (room : Int) (l : List Ev) (v : Value) (A : Option Addr) (n c : Nat) (xs : List Ev) (w : World) (h : Mb w b base room l v) (hp : 0 < room) (hp2 : room ≤ 1024) (hl : l.length ≤ 10000) (hr : Rds w 15 A n c (evs xs)) (hn : n ≤ 10000) (hbase : base ≤ w.heap.size) :
    Calls Try.prog 10 #[.pointer (some ⟨b, 0, none⟩), .slice A n c] w fun e w' => e = .returned (.int .i64 (mayE room l.length xs)) ∧
      (mayE room l.length xs = 0 → Chg (fun k => k = b) w w' ∧ ∃ v', Mb w' b base room (xs ++ l) v' ∧ ∀ k, v'.ownBlock = some k → w.heap.size ≤ k) ∧ (mayE room l.length xs ≠ 0 → Below w.heap.size w w') := by
  have hbw := h.rm.lt
  have HM := Lib.hid (mmay b base room l v A n c xs w h hp hp2 (by omega) hr)
  generalize hrE : mayE room l.length xs = r at HM ⊢
  clear hrE
  by_cases hr0 : r = 0
  · subst hr0
    have hxl := evs_len hr
    obtain ⟨A0, c0, hv, hr0⟩ := own_rds h.own
    subst hv
    go_enter Try.func10, Try.ntmps10
    go_wp2_with (first
      | (go_at_call 17; (with_reducible refine HM.out.mono ?_); rintro x w1 ⟨rfl, hb1⟩; have hm1 := h.below hb1; have k0 := hm1.row.cell; have hal : Below w1.heap.size w1 (w1.alloc (.cells #[.slice A n c, .slice A0 l.length c0] 22)) := (below_al (Below.refl _ _) _); have hx0 : (w1.alloc (.cells #[.slice A n c, .slice A0 l.length c0] 22)).cell? ⟨w1.heap.size, 0, none⟩ = some (.slice A n c) := (by go_simp); have hx1 : (w1.alloc (.cells #[.slice A n c, .slice A0 l.length c0] 22)).cell? ⟨w1.heap.size, 1, none⟩ = some (.slice A0 l.length c0) := (by go_simp); have HC := Lib.hid (concatEv w1.heap.size A n c xs A0 l.length c0 l _ hx0 hx1 ((hr.below hb1).below hal) ((hr0.below hb1).below hal) hn hl); have HAL := Lib.hid hal; clear hx0 hx1 hal)
      | (go_at_call 21; (with_reducible refine HC.out.mono ?_); rintro x w3 ⟨v3, rfl, hown3, hb3⟩; have hb23 := below_tr HAL.out hb3; have hbx := hm1.row.below hb23; have hbc := hbx.cell; have hbf := hbx.free; obtain ⟨A3, c3, rfl⟩ := own_slice hown3))
    go_ret
    have hs1 := hb1.size
    have hs2 := HAL.out.size
    have hap3 : (Value.slice A3 (n + l.length) c3).ownBlock ≠ some b := by
      intro e
      have := (hown3.lt b e).1
      omega
    have hch3 : Chg (fun k => k = b) w3 (w3.setCell ⟨b, 0, none⟩ (.slice A3 (n + l.length : Nat) c3)) := Chg.setCell (S := fun k => k = b) (Chg.refl _ _) b 0 _ rfl
    refine ⟨rfl, fun _ => ⟨((Chg.of_below hb1).trans (.of_below hb23)).trans hch3, .slice A3 (n + l.length) c3, ⟨hbx.set _, (hm1.rm.below hb23).other_ _, ?_, hap3⟩, fun k e => by have := (hown3.lt k e).1; omega⟩, fun e => absurd rfl e⟩
    rw [List.length_append, hxl]
    exact own_mono (hch3.own hown3 (fun k hk e => hap3 (by rw [hk, e]))) (by omega)
  · have hr2 : (r == 0) = false := by simpa using hr0
    have H0 : Hid (r ≠ 0) := hr0
    clear hr0
    go_enter Try.func10, Try.ntmps10
    go_wp2_with (go_at_call 17; (with_reducible refine HM.out.mono ?_); rintro x w1 ⟨rfl, hb1⟩)
    go_ret
    exact ⟨rfl, fun e => absurd e H0.out, fun _ => hb1⟩
end Go.Proofs.Ytjefnhlpidjndaa
