/- Package device: Start. -/
import Derived.Test.YtdfncmhbbhmgfaaDev
namespace Go.Proofs.Ytdfncmhbbhmgfaa
open Go.RowKit
theorem ret_ii {a b c d : Int} {k k' : IntKind} (h : a = c) (h' : b = d) : Ending.returned (.tuple #[.int k a, .int k' b]) = .returned (.tuple #[.int k c, .int k' d]) := by rw [h, h']
set_option maxRecDepth 100000 in
set_option maxHeartbeats 2000000 in
theorem dstart_bad (b base : Nat) (room : Int) (l : List Rq) (last done : Int) (v : Value) (r : Rq) (w : World) (h : Dev w b base room l last done v) (hr : 0 < room) (hg : goodR r = false) :
    Calls Try.prog 9 #[.pointer (some ⟨b, 0, none⟩), rqV r] w fun e w' => e = .returned (.tuple #[.int .i64 0, .int .i64 2]) ∧ Below w.heap.size w w' := by
  have HG := Lib.hid (fun W => dgood r W)
  rw [hg] at HG
  have hb : Below w.heap.size w (w.alloc (.cells #[.int .i64 r.id, .int .i64 r.space, .int .i64 r.thread, .int .i64 r.kind, .int .i64 r.size] 28)) := below_al (Below.refl _ _) _
  have hc := (h.room_.below hb).cell
  have HM := Lib.hid (dmade b room _ hc)
  rw [decide_eq_true hr] at HM
  clear hg
  obtain ⟨r1, r2, r3, r4, r5⟩ := r
  unfold rqV at HG ⊢
  simp only at HG HM hb hc ⊢
  go_enter Try.func9, Try.ntmps9
  go_wp2_with (first | (go_at_call 21; refine HM.out.mono ?_; rintro e w1 ⟨rfl, rfl⟩) | (go_at_call 22; refine (HG.out _).mono ?_; rintro e w2 ⟨rfl, hb2⟩))
  go_ret2
  exact ⟨ret_ii rfl rfl, below_tr hb hb2⟩
set_option maxRecDepth 100000 in
set_option maxHeartbeats 2000000 in
theorem dstart_full (b base : Nat) (room : Int) (l : List Rq) (last done : Int) (v : Value) (r : Rq) (w : World) (h : Dev w b base room l last done v) (hr : 0 < room) (hg : goodR r = true) (hf : (l.length : Int) = room) :
    Calls Try.prog 9 #[.pointer (some ⟨b, 0, none⟩), rqV r] w fun e w' => e = .returned (.tuple #[.int .i64 0, .int .i64 3]) ∧ Below w.heap.size w w' := by
  have HG := Lib.hid (fun W => dgood r W)
  rw [hg] at HG
  have hb : Below w.heap.size w (w.alloc (.cells #[.int .i64 r.id, .int .i64 r.space, .int .i64 r.thread, .int .i64 r.kind, .int .i64 r.size] 28)) := below_al (Below.refl _ _) _
  have hc := (h.room_.below hb).cell
  have HM := Lib.hid (dmade b room _ hc)
  rw [decide_eq_true hr] at HM
  obtain ⟨A, n, c, rfl, hn, hrd⟩ := own_open h.own
  have hnf : (n : Int) = room := by rw [hn.out]; exact hf
  have hnb : ((n : Int) == room) = true := by simp [hnf]
  clear hg hf
  obtain ⟨r1, r2, r3, r4, r5⟩ := r
  unfold rqV at HG ⊢
  simp only at HG HM hb hc ⊢
  go_enter Try.func9, Try.ntmps9
  go_wp2_with (first | (go_at_call 21; refine HM.out.mono ?_; rintro e w1 ⟨rfl, rfl⟩) | (go_at_call 22; refine (HG.out _).mono ?_; rintro e w2 ⟨rfl, hb2⟩))
  have hx0 := (h.room_.below (below_tr hb hb2)).cell
  have hx1 := (h.row.below (below_tr hb hb2)).cell
  have hB := below_tr hb hb2
  clear h hrd hc HM
  go_quiet (fail)
  go_wp2
  go_ret2
  exact ⟨ret_ii rfl rfl, below_dr hB _⟩
end Go.Proofs.Ytdfncmhbbhmgfaa
