/- Package code: Read, Left, Err, End of a source that was made. -/
import Derived.Test.YtdnddoiemaifjaaSrcNum
namespace Go.Proofs.Ytdnddoiemaifjaa
open Go.RowKit
variable {B : Nat}
set_option maxRecDepth 100000 in
set_option maxHeartbeats 2000000 in
theorem srcLeft (b : Nat) (er : Int) (bs : List Int) (w : World) (h : Src B w b bs er) : Calls Try.prog 31 #[.pointer (some ⟨b, 0, none⟩)] w fun e w' => e = .returned (.int .i64 bs.length) ∧ w = w' := by
  obtain ⟨A, n, c, h1, h2, h3⟩ := h.row
  have hc := h1.cell
  rw [rds_len h2]
  have HM := Lib.hid (sis b true w h.made.cell)
  clear h h2
  go_enter Try.func31, Try.ntmps31
  go_wp2_with ((with_reducible refine HM.out.mono ?_); rintro e w1 ⟨rfl, rfl⟩)
  go_ret
  exact ⟨rfl, rfl⟩
set_option maxRecDepth 100000 in
set_option maxHeartbeats 2000000 in
theorem srcErr (b : Nat) (er : Int) (bs : List Int) (w : World) (h : Src B w b bs er) : Calls Try.prog 30 #[.pointer (some ⟨b, 0, none⟩)] w fun e w' => e = .returned (.int .i64 er) ∧ w = w' := by
  have hc := h.err.cell
  have HM := Lib.hid (sis b true w h.made.cell)
  clear h
  go_enter Try.func30, Try.ntmps30
  go_wp2_with ((with_reducible refine HM.out.mono ?_); rintro e w1 ⟨rfl, rfl⟩)
  go_ret
  exact ⟨rfl, rfl⟩
theorem src_new (w : World) (e : TypeId) (A : Option Addr) (n c : Nat) (bs : List Int) (hr : Rds w 1 A n c (nums .u8 bs)) (hA : ∀ ad, A = some ad → ad.block ≠ w.heap.size ∧ ad.block < w.heap.size) :
    Src (w.alloc (.cells #[.bool true, .slice A n c, .int .i64 0] e)).heap.size (w.alloc (.cells #[.bool true, .slice A n c, .int .i64 0] e)) w.heap.size bs 0 := by
  refine ⟨by constructor <;> go_simp, ⟨A, n, c, by constructor <;> go_simp, hr.below (below_al (Below.refl _ _) _), fun ad h => ⟨(hA ad h).1, ?_⟩⟩, by constructor <;> go_simp⟩
  have := (hA ad h).2
  simp
  omega
set_option maxRecDepth 100000 in
set_option maxHeartbeats 2000000 in
theorem srcRead (A : Option Addr) (n c : Nat) (bs : List Int) (w : World) (hr : Rds w 1 A n c (nums .u8 bs)) (hn : n ≤ 140737488355328) :
    Calls Try.prog 28 #[.slice A n c] w fun e w' => ∃ b, e = .returned (.pointer (some ⟨b, 0, none⟩)) ∧ w.heap.size ≤ b ∧ Below w.heap.size w w' ∧ Src w'.heap.size w' b bs 0 := by
  have HC := Lib.hid (bclone A n c bs w hr hn)
  go_enter Try.func28, Try.ntmps28
  go_wp2_with (go_at_call 48; (with_reducible refine HC.out.mono ?_); rintro e w1 hp; obtain ⟨A1, n1, c1, rfl, _, hr1, hb1, ho1⟩ := hp.open_)
  go_ret
  have hal : Below w1.heap.size w1 (w1.alloc (.cells #[.bool true, .slice A1 n1 c1, .int .i64 0] 80)) := below_al (Below.refl _ _) _
  refine ⟨w1.heap.size, rfl, hb1.size, below_tr hb1 hal, src_new w1 _ A1 n1 c1 bs hr1 (fun ad e => ?_)⟩
  subst e
  obtain ⟨A', n', hv⟩ := own_slice ho1
  cases hv
  rcases ho1.2 with ⟨h0, _⟩ | ⟨g, cap, cur, hv, _, hg, _⟩
  · cases h0
  · cases hv
    exact ⟨Nat.ne_of_lt (Array.getElem?_eq_some_iff.1 hg).1, (Array.getElem?_eq_some_iff.1 hg).1⟩
end Go.Proofs.Ytdnddoiemaifjaa
