/- The reference's Batch, of any row at any number. -/
import Derived.Test.YtdnddoiemaifjaaBatchAny
import Derived.Test.YtdnddoiemaifjaaEvSame
namespace Go.Proofs.Ytdnddoiemaifjaa
open Go.RowKit
theorem batchN_at {l : List Ev} {k n : Nat} (hk : k < l.length) (hn : k < n) (hno : ∀ j (h : j < l.length), j < k → pre l[j] = false) (h : k + 1 = n ∨ pre l[k] = true) : batchN l n = k + 1 := by
  have hlt : (l.take (min l.length n)).length = min l.length n := by rw [List.length_take]; omega
  by_cases hp : pre l[k] = true
  · refine batchN_some (x := k) rfl ?_
    refine idxP_some pre _ k (by rw [hlt]; omega) (by rw [List.getElem_take]; exact hp) (fun j hj => ?_)
    rw [List.getElem_take]
    exact hno j (by omega) hj
  · have h1 : k + 1 = n := h.resolve_right hp
    rw [batchN_none (k := min l.length n) rfl]
    · omega
    · refine idxP_none pre _ (fun x hx => ?_)
      obtain ⟨j, hj, rfl⟩ := List.getElem_of_mem hx
      rw [List.getElem_take]
      rw [hlt] at hj
      by_cases hjk : j = k
      · subst hjk; simpa using hp
      · exact hno j (by omega) (by omega)
theorem batchN_all {l : List Ev} {n : Nat} (hn : l.length < n) (hno : ∀ j (h : j < l.length), pre l[j] = false) : batchN l n = l.length := by
  rw [batchN_none (k := min l.length n) rfl]
  · omega
  · refine idxP_none pre _ (fun x hx => ?_)
    obtain ⟨j, hj, rfl⟩ := List.getElem_of_mem hx
    rw [List.getElem_take]
    exact hno j _
end Go.Proofs.Ytdnddoiemaifjaa
