/- The reference's Read. -/
import Derived.Test.YtdnddoiemaifjaaRefGets2
import Derived.Test.YtdnddoiemaifjaaSrcRest
namespace Go.Proofs.Ytdnddoiemaifjaa
open Go.RowKit
theorem rsrc_new (w : World) (L : Nat) (e : TypeId) (A : Option Addr) (n c : Nat) (bs : List Int) (hr : Rds w 1 A n c (nums .u8 bs)) (hA : ∀ ad, A = some ad → ad.block < w.heap.size) (hL : ∀ ad, A = some ad → L ≤ ad.block) :
    RSrc L (w.alloc (.cells #[.slice A n c, .int .i64 0] e)).heap.size (w.alloc (.cells #[.slice A n c, .int .i64 0] e)) w.heap.size bs 0 := by
  refine ⟨⟨A, n, c, by constructor <;> go_simp, hr.below (below_al (Below.refl _ _) _), fun ad h => ⟨by have := hA ad h; omega, hL ad h, ?_⟩⟩, by constructor <;> go_simp⟩
  have := hA ad h
  simp
  omega
theorem own_lt {w : World} {base : Nat} {e : TypeId} {size n m c : Nat} {A : Option Addr} {xs : List Value} (h : w.ownsRow base e size (.slice A m c) n xs) : ∀ ad, A = some ad → ad.block < w.heap.size := by
  rintro ad rfl
  have hlt := h.lt
  rcases h.2 with ⟨h0, _⟩ | ⟨g, cap, cur, hv, hg, _⟩
  · cases h0
  · cases hv; exact (hlt g rfl).2
set_option maxRecDepth 100000 in
set_option maxHeartbeats 2000000 in
theorem refRead (A : Option Addr) (n c : Nat) (bs : List Int) (w : World) (hr : Rds w 1 A n c (nums .u8 bs)) (hn : n ≤ 1000000) :
    Calls Try.prog 32 #[.slice A n c] w fun e w' => ∃ b, e = .returned (.pointer (some ⟨b, 0, none⟩)) ∧ w.heap.size ≤ b ∧ Below w.heap.size w w' ∧ RSrc w.heap.size w'.heap.size w' b bs 0 := by
  have hrl := rds_len hr
  have hal : Below w.heap.size w (w.alloc (.cells #[] 5)) := below_al (Below.refl _ _) _
  go_enter Try.func32, Try.ntmps32
  go_wp2_with (at_builtin; refine apbs (w0 := w) (by rfl) _ _ (by rfl) _ [] _ _ _ _ (by rfl) (by rfl) (hr.below hal) (lit_own (Below.refl _ _) _) hal (by simp only [List.length_nil]; omega) ?_; intro v1 w1 hown hbel; obtain ⟨A1, c1, rfl⟩ := own_slice hown)
  go_ret
  have hr1 := (own_rds' hown).2
  rw [List.nil_append] at hr1
  rw [hrl] at hr1
  have hal2 : Below w1.heap.size w1 (w1.alloc (.cells #[.slice A1 n c1, .int .i64 0] 65)) := below_al (Below.refl _ _) _
  refine ⟨w1.heap.size, rfl, hbel.size, below_tr hbel hal2, ?_⟩
  exact rsrc_new w1 w.heap.size _ A1 _ c1 bs hr1 (own_lt hown) (own_addr hown)
end Go.Proofs.Ytdnddoiemaifjaa
