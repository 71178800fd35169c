/- Package device: Done, Len. -/
import Derived.Test.YtdfncmhbbhmgfaaDev
namespace Go.Proofs.Ytdfncmhbbhmgfaa
open Go.RowKit
set_option maxHeartbeats 1000000 in
theorem ddone (b base : Nat) (room : Int) (l : List Rq) (last done : Int) (v : Value) (w : World) (h : Dev w b base room l last done v) (hr : 0 < room) :
    Calls Try.prog 11 #[.pointer (some ⟨b, 0, none⟩)] w fun e w' => e = .returned (.int .i64 done) ∧ w = w' := by
  have HM := Lib.hid (dmade b room w h.room_.cell)
  rw [decide_eq_true hr] at HM
  have hx := h.done_.cell
  clear h
  go_enter Try.func11, Try.ntmps11
  go_wp2_with (go_at_call 21; refine HM.out.mono ?_; rintro e w1 ⟨rfl, rfl⟩)
  go_ret
  exact ⟨rfl, rfl⟩
set_option maxHeartbeats 1000000 in
theorem dlen (b base : Nat) (room : Int) (l : List Rq) (last done : Int) (v : Value) (w : World) (h : Dev w b base room l last done v) (hr : 0 < room) :
    Calls Try.prog 12 #[.pointer (some ⟨b, 0, none⟩)] w fun e w' => e = .returned (.int .i64 l.length) ∧ w = w' := by
  have HM := Lib.hid (dmade b room w h.room_.cell)
  rw [decide_eq_true hr] at HM
  obtain ⟨A, n, c, rfl, hn, _⟩ := own_open h.own
  have hx := h.row.cell
  clear h
  go_enter Try.func12, Try.ntmps12
  go_wp2_with (go_at_call 21; refine HM.out.mono ?_; rintro e w1 ⟨rfl, rfl⟩)
  go_ret
  exact ⟨ret_int (by rw [hn.out]), rfl⟩
end Go.Proofs.Ytdfncmhbbhmgfaa
