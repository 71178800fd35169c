/- slices.IndexFunc and slices.ContainsFunc at []int, for whatever predicate that only reads. -/
import Derived.Test.YtabdipfpfbdghaaRows
import Derived.Test.YtabdipfpfbdghaaBase
import Derived.Test.YtabdipfpfbdghaaIdxP
import Derived.Shelf.Abstract
namespace Go.Proofs.Ytabdipfpfbdghaa
open Go.RowKit
set_option maxHeartbeats 400000 in
theorem indexInt (g : Nat) (lb : Array Value) (eg : ∀ args w, (callFunc g args).run Try.prog w = .ok (.enter g args) w) (p : Int → Bool) (A : Option Addr) (n c : Nat) (xs : List Int) (w : World) (hr : Rds w 1 A n c (nums .i64 xs))
    (hp : ∀ x ∈ xs, Calls Try.prog g (#[.int .i64 x] ++ lb) w fun e w' => e = .returned (.bool (p x)) ∧ w = w') :
    Calls Try.prog 84 #[.slice A n c, .func (.func g) #[] lb] w fun e w' => e = .returned (.int .i64 (idxP p xs)) ∧ w = w' := by
  have HP := Lib.hid hp
  have HN : Hid (xs.length = n) := by have := hr.len; rw [nums_length] at this; show _ = _; omega
  have hmax : n ≤ 9223372036854775807 := by have := hr.le; have := hr.max; unfold maxLen at this; omega
  clear hp
  go_enter Try.func84, Try.ntmps84
  go_wp2
  go_loop [8] (fun i => ∃ k : Nat, k ≤ n ∧ i = .int .i64 k ∧ Hid (∀ j (hj : j < k) (hj2 : j < xs.length), p xs[j] = false)) (fun i => n - (intOf i).toNat)
  case atStart => exact ⟨0, Nat.zero_le _, rfl, fun j hj => absurd hj (Nat.not_lt_zero _)⟩
  case round =>
    obtain ⟨k, hk, rfl, HJ⟩ := hrel
    by_cases hlt : k < n
    · have hkx : k < xs.length := by rw [HN.out]; exact hlt
      obtain ⟨ad, rfl⟩ := hr.some_ (by omega)
      have hcell := hr.cell ad rfl k _ (nums_get .i64 xs k hkx)
      have hcall := HP.out xs[k] (List.getElem_mem hkx)
      generalize hy : xs[k] = y at hcell hcall
      have HY := Lib.hid hy
      clear hy
      cases hq : p y with
      | true =>
        rw [hq] at hcall
        have HQ := Lib.hid hq
        clear hq
        go_wp2_with (go_at_fn g; refine hcall.mono ?_; rintro e w' ⟨rfl, rfl⟩)
        go_ret
        refine ⟨?_, rfl⟩
        rw [idxP_some p xs k hkx (by rw [HY.out]; exact HQ.out) (fun j hj => HJ.out j hj (by omega))]
        rfl
      | false =>
        rw [hq] at hcall
        have HQ := Lib.hid hq
        clear hq
        go_wp2_with (go_at_fn g; refine hcall.mono ?_; rintro e w' ⟨rfl, rfl⟩)
        go_round
        case rel =>
          refine ⟨k + 1, by omega, by go_num, (show Hid _ from fun j hj hj2 => ?_)⟩
          by_cases e : j = k
          · subst e
            rw [HY.out]; exact HQ.out
          · exact HJ.out j (by omega) hj2
        case measure => simp [intOf]; omega
    · go_wp2
      go_ret
      refine ⟨?_, rfl⟩
      rw [idxP_none p xs (fun x hx => by
        obtain ⟨j, hj, rfl⟩ := List.getElem_of_mem hx
        exact HJ.out j (by have := HN.out; omega) hj)]
      rfl
set_option maxHeartbeats 400000 in
theorem containsInt (g : Nat) (lb : Array Value) (eg : ∀ args w, (callFunc g args).run Try.prog w = .ok (.enter g args) w) (p : Int → Bool) (A : Option Addr) (n c : Nat) (xs : List Int) (w : World) (hr : Rds w 1 A n c (nums .i64 xs))
    (hp : ∀ x ∈ xs, Calls Try.prog g (#[.int .i64 x] ++ lb) w fun e w' => e = .returned (.bool (p x)) ∧ w = w') :
    Calls Try.prog 70 #[.slice A n c, .func (.func g) #[] lb] w fun e w' => e = .returned (.bool (xs.any p)) ∧ w = w' := by
  have HI := Lib.hid (indexInt g lb eg p A n c xs w hr hp)
  have HA := Lib.hid (idxP_any p xs)
  generalize idxP p xs = q at HI HA
  generalize xs.any p = b at HA
  clear hp hr eg
  go_enter Try.func70, Try.ntmps70
  go_wp2_with (go_at_call 84; refine HI.out.mono ?_; rintro e w' ⟨rfl, rfl⟩)
  go_ret
  exact ⟨ret_bool HA.out, rfl⟩
end Go.Proofs.Ytabdipfpfbdghaa
