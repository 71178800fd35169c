/- The first of a list that a predicate takes: plain. -/
import Derived.WalkKit
import Derived.Test.YtabdipfpfbdghaaGreatRows
import Derived.Test.YtabdipfpfbdghaaGreatZBase
import Derived.Shelf.Abstract
import Derived.IntWalk
namespace Go.Proofs.YtabdipfpfbdghaaGreat
def idxP {α : Type} (p : α → Bool) (l : List α) : Int := match l.findIdx? p with | some i => i | none => -1
theorem idxP_none {α : Type} (p : α → Bool) (l : List α) (h : ∀ x ∈ l, p x = false) : idxP p l = -1 := by
  unfold idxP
  rw [List.findIdx?_eq_none_iff.2 h]
theorem idxP_some {α : Type} (p : α → Bool) (l : List α) (k : Nat) (hk : k < l.length) (hp : p l[k] = true) (h : ∀ j (hj : j < k), p l[j] = false) : idxP p l = k := by
  unfold idxP
  have : l.findIdx? p = some k := by
    rw [List.findIdx?_eq_some_iff_getElem]
    exact ⟨hk, hp, fun j hj => by simp [h j hj]⟩
  rw [this]
theorem idxP_any {α : Type} (p : α → Bool) (l : List α) : decide (0 ≤ idxP p l) = l.any p := by
  unfold idxP
  cases h : l.findIdx? p with
  | none =>
    have := List.findIdx?_eq_none_iff.1 h
    rw [Bool.eq_iff_iff]
    simp
    exact fun x hx => by simpa using this x hx
  | some i =>
    rw [List.findIdx?_eq_some_iff_getElem] at h
    obtain ⟨hi, hp, _⟩ := h
    rw [Bool.eq_iff_iff]
    simp
    exact ⟨_, List.getElem_mem hi, hp⟩
end Go.Proofs.YtabdipfpfbdghaaGreat

/- slices.IndexFunc and slices.ContainsFunc at []int, for whatever predicate that only reads. -/
namespace Go.Proofs.YtabdipfpfbdghaaGreat
open Go.RowKit
set_option maxHeartbeats 400000 in
theorem indexInt (g : Nat) (lb : Array Value) (eg : ∀ args w, (callFunc g args).run Tryz.prog w = .ok (.enter g args) w) (p : Int → Bool) (A : Option Addr) (n c : Nat) (xs : List Int) (w : World) (hr : Rds w 1 A n c (nums .i64 xs))
    (hp : ∀ x ∈ xs, Calls Tryz.prog g (#[.int .i64 x] ++ lb) w fun e w' => e = .returned (.bool (p x)) ∧ w = w') :
    Calls Tryz.prog 111 #[.slice A n c, .func (.func g) #[] lb] w fun e w' => e = .returned (.int .i64 (idxP p xs)) ∧ w = w' := by
  have HP := Lib.hid hp
  have HN : Hid (xs.length = n) := by have := hr.len; rw [nums_length] at this; show _ = _; omega
  have hmax : n ≤ 9223372036854775807 := by have := hr.le; have := hr.max; unfold maxLen at this; omega
  clear hp
  go_enter Tryz.func111, Tryz.ntmps111
  go_wp2
  go_loop [8] (fun i => ∃ k : Nat, k ≤ n ∧ i = .int .i64 k ∧ Hid (∀ j (hj : j < k) (hj2 : j < xs.length), p xs[j] = false)) (fun i => n - (intOf i).toNat)
  case atStart => exact ⟨0, Nat.zero_le _, rfl, fun j hj => absurd hj (Nat.not_lt_zero _)⟩
  case round =>
    obtain ⟨k, hk, rfl, HJ⟩ := hrel
    by_cases hlt : k < n
    · have hkx : k < xs.length := by rw [HN.out]; exact hlt
      obtain ⟨ad, rfl⟩ := hr.some_ (by omega)
      have hcell := hr.cell ad rfl k _ (nums_get .i64 xs k hkx)
      have hcall := HP.out xs[k] (List.getElem_mem hkx)
      generalize hy : xs[k] = y at hcell hcall
      have HY := Lib.hid hy
      clear hy
      cases hq : p y with
      | true =>
        rw [hq] at hcall
        have HQ := Lib.hid hq
        clear hq
        go_wp2_with (go_at_fn g; refine hcall.mono ?_; rintro e w' ⟨rfl, rfl⟩)
        go_ret
        refine ⟨?_, rfl⟩
        rw [idxP_some p xs k hkx (by rw [HY.out]; exact HQ.out) (fun j hj => HJ.out j hj (by omega))]
        rfl
      | false =>
        rw [hq] at hcall
        have HQ := Lib.hid hq
        clear hq
        go_wp2_with (go_at_fn g; refine hcall.mono ?_; rintro e w' ⟨rfl, rfl⟩)
        go_round
        case rel =>
          refine ⟨k + 1, by omega, by go_num, (show Hid _ from fun j hj hj2 => ?_)⟩
          by_cases e : j = k
          · subst e
            rw [HY.out]; exact HQ.out
          · exact HJ.out j (by omega) hj2
        case measure => simp [intOf]; omega
    · go_wp2
      go_ret
      refine ⟨?_, rfl⟩
      rw [idxP_none p xs (fun x hx => by
        obtain ⟨j, hj, rfl⟩ := List.getElem_of_mem hx
        exact HJ.out j (by have := HN.out; omega) hj)]
      rfl
set_option maxHeartbeats 400000 in
theorem containsInt (g : Nat) (lb : Array Value) (eg : ∀ args w, (callFunc g args).run Tryz.prog w = .ok (.enter g args) w) (p : Int → Bool) (A : Option Addr) (n c : Nat) (xs : List Int) (w : World) (hr : Rds w 1 A n c (nums .i64 xs))
    (hp : ∀ x ∈ xs, Calls Tryz.prog g (#[.int .i64 x] ++ lb) w fun e w' => e = .returned (.bool (p x)) ∧ w = w') :
    Calls Tryz.prog 94 #[.slice A n c, .func (.func g) #[] lb] w fun e w' => e = .returned (.bool (xs.any p)) ∧ w = w' := by
  have HI := Lib.hid (indexInt g lb eg p A n c xs w hr hp)
  have HA := Lib.hid (idxP_any p xs)
  generalize idxP p xs = q at HI HA
  generalize xs.any p = b at HA
  clear hp hr eg
  go_enter Tryz.func94, Tryz.ntmps94
  go_wp2_with (go_at_call 111; refine HI.out.mono ?_; rintro e w' ⟨rfl, rfl⟩)
  go_ret
  exact ⟨ret_bool HA.out, rfl⟩
end Go.Proofs.YtabdipfpfbdghaaGreat

/- Sums of ints that may be too great: plain numbers, no program. -/
namespace Go.Proofs.YtabdipfpfbdghaaGreat
open Go.RowKit
/-- n is an int. -/
def I64 (n : Int) : Prop := -9223372036854775808 ≤ n ∧ n < 9223372036854775808
instance (n : Int) : Decidable (I64 n) := by unfold I64; infer_instance
theorem i64_of_wf {n : Int} (h : (Lit.int .i64 n).wf = true) : I64 n := by
  have hmin : IntKind.i64.min = -9223372036854775808 := rfl
  have hmax : IntKind.i64.max = 9223372036854775807 := rfl
  simp only [Lit.wf, Bool.and_eq_true, decide_eq_true_eq] at h
  unfold I64
  omega
/-- n, or 0 where it is no int. -/
def fitV (n : Int) : Int := if I64 n then n else 0
def fitB (n : Int) : Bool := decide (I64 n)
theorem fit_yes {n : Int} (h : I64 n) : fitV n = n ∧ fitB n = true := by simp [fitV, fitB, h]
theorem fit_no {n : Int} (h : ¬ I64 n) : fitV n = 0 ∧ fitB n = false := by simp [fitV, fitB, h]
theorem wrap64_id {n : Int} (h : I64 n) : wrap64 n = n := by unfold I64 at h; unfold wrap64; omega
theorem wrap64_i64 (n : Int) : I64 (wrap64 n) := by unfold I64 wrap64; omega
/-- The law of Go's own test of a sum. -/
theorem add_test {a b : Int} (ha : I64 a) (hb : I64 b) : I64 (a + b) ↔ ¬ ((0 ≤ a ↔ 0 ≤ b) ∧ ¬ (0 ≤ wrap64 (a + b) ↔ 0 ≤ a)) := by
  unfold I64 at *
  unfold wrap64
  omega
theorem sub_test {a b : Int} (ha : I64 a) (hb : I64 b) : I64 (a - b) ↔ ¬ (¬ (0 ≤ a ↔ 0 ≤ b) ∧ ¬ (0 ≤ wrap64 (a - b) ↔ 0 ≤ a)) := by
  unfold I64 at *
  unfold wrap64
  omega
/-- Clamp: x, between two others. -/
def clampV (x least most : Int) : Int := max (min x most) least
theorem ret_ib {a b : Int} {x y : Bool} (h : a = b) (h' : x = y) : Ending.returned (.tuple #[.int .i64 a, .bool x]) = .returned (.tuple #[.int .i64 b, .bool y]) := by rw [h, h']
end Go.Proofs.YtabdipfpfbdghaaGreat

/- Package num: sums and differences, and a number between two others. -/
namespace Go.Proofs.YtabdipfpfbdghaaGreat
open Go.RowKit
set_option maxHeartbeats 1000000 in
theorem nadd (a b : Int) (ha : I64 a) (hb : I64 b) (w : World) :
    Calls Tryz.prog 78 #[.int .i64 a, .int .i64 b] w fun e w' => e = .returned (.tuple #[.int .i64 (fitV (a + b)), .bool (fitB (a + b))]) ∧ w = w' := by
  have HT := Lib.hid (add_test ha hb)
  have HW := Lib.hid (fun h : I64 (a + b) => wrap64_id h)
  clear ha hb
  by_cases h1 : 0 ≤ a <;> by_cases h2 : 0 ≤ b <;> by_cases h3 : 0 ≤ wrap64 (a + b)
  all_goals
    go_enter Tryz.func78, Tryz.ntmps78
    go_wp2
    go_ret2
    first
    | (have hf := fit_yes (HT.out.2 (by omega))
       refine ⟨ret_ib ?_ hf.2.symm, rfl⟩
       rw [hf.1]
       exact HW.out (HT.out.2 (by omega)))
    | (have hf := fit_no (fun h => HT.out.1 h (by omega))
       exact ⟨ret_ib hf.1.symm hf.2.symm, rfl⟩)
set_option maxHeartbeats 400000 in
theorem nclamp (x l m : Int) (w : World) : Calls Tryz.prog 97 #[.int .i64 x, .int .i64 l, .int .i64 m] w fun e w' => e = .returned (.int .i64 (clampV x l m)) ∧ w = w' := by
  go_enter Tryz.func97, Tryz.ntmps97
  go_wp2
  all_goals
    go_ret
    exact ⟨ret_int (by unfold clampV; omega), rfl⟩
end Go.Proofs.YtabdipfpfbdghaaGreat

/- Package stride: strides and passes that enter. -/
namespace Go.Proofs.YtabdipfpfbdghaaGreat
open Go.RowKit
theorem info_int : (Tryz.prog.info? 3).map (fun i => (i.zero, i.size, i.bytes)) = some (some (.int .i64 0), 1, 8) := by kernel_rfl
def wrongT (t : Int) : Bool := decide (t < 1) || decide (65536 < t)
def rightT (t : Int) : Bool := decide (1 ≤ t ∧ t ≤ 65536)
theorem right_wrong (t : Int) : (!wrongT t) = rightT t := by
  unfold wrongT rightT
  rw [Bool.eq_iff_iff]
  simp
set_option maxHeartbeats 400000 in
theorem sright1 (t : Int) (w : World) : Calls Tryz.prog 93 #[.int .i64 t] w fun e w' => e = .returned (.bool (wrongT t)) ∧ w = w' := by
  by_cases h1 : t < 1 <;> by_cases h2 : 65536 < t
  all_goals
    go_enter Tryz.func93, Tryz.ntmps93
    go_wp2
    all_goals
      go_ret
      exact ⟨ret_bool (by simp [wrongT]; omega), rfl⟩
set_option maxHeartbeats 400000 in
theorem sright (A : Option Addr) (n c : Nat) (xs : List Int) (w : World) (hr : Rds w 1 A n c (nums .i64 xs)) :
    Calls Tryz.prog 74 #[.slice A n c] w fun e w' => e = .returned (.bool (xs.all rightT)) ∧ w = w' := by
  have eg : ∀ args w, (callFunc 93 args).run Tryz.prog w = .ok (.enter 93 args) w := Go.Proofs.enters_of Tryz.func93 (by kernel_rfl) rfl
  have HI := Lib.hid (containsInt 93 #[] eg wrongT A n c xs w hr (fun x _ => sright1 x w))
  have HB : Hid ((!xs.any wrongT) = xs.all rightT) := by
    show _ = _
    rw [List.not_any_eq_all_not]
    congr 1
    funext t
    exact right_wrong t
  generalize xs.any wrongT = q at HI HB
  generalize xs.all rightT = b at HB
  clear eg hr
  go_enter Tryz.func74, Tryz.ntmps74
  go_wp2_with (go_at_call 94; refine HI.out.mono ?_; rintro e w' ⟨rfl, rfl⟩)
  go_ret
  exact ⟨ret_bool HB.out, rfl⟩
def strideV (t : Int) : Int := if rightT t then 1099511627776 / t else 0
set_option maxHeartbeats 400000 in
theorem sstride (t : Int) (w : World) : Calls Tryz.prog 53 #[.int .i64 t] w fun e w' => e = .returned (.int .i64 (strideV t)) ∧ Below w.heap.size w w' := by
  cases h : rightT t with
  | true =>
    have h1 : 1 ≤ t ∧ t ≤ 65536 := by simpa [rightT] using h
    obtain ⟨h1, h2⟩ := h1
    have HI := Lib.hid h
    clear h
    go_enter Tryz.func53, Tryz.ntmps53
    go_wp2_with (go_at_call 74; refine (sright _ 1 1 [t] _ (rds_lit _ _ 1 1 (nums .i64 [t]) rfl (by decide))).mono ?_; rintro e w' ⟨rfl, rfl⟩; rw [show List.all [t] rightT = true by simp [HI.out]])
    go_ret
    refine ⟨ret_int ?_, below_al (Below.refl _ _) _⟩
    unfold strideV
    rw [if_pos HI.out]
  | false =>
    have HI := Lib.hid h
    clear h
    go_enter Tryz.func53, Tryz.ntmps53
    go_wp2_with (go_at_call 74; refine (sright _ 1 1 [t] _ (rds_lit _ _ 1 1 (nums .i64 [t]) rfl (by decide))).mono ?_; rintro e w' ⟨rfl, rfl⟩; rw [show List.all [t] rightT = false by simp [HI.out]])
    go_ret
    refine ⟨ret_int ?_, below_al (Below.refl _ _) _⟩
    unfold strideV
    rw [HI.out]
    rfl
def satAdd (a b : Int) : Int := if I64 (a + b) then a + b else if b < 0 then -9223372036854775808 else 9223372036854775807
def enterV (pass now s : Int) : Int := clampV pass now (satAdd now s)
set_option maxRecDepth 100000 in
set_option maxHeartbeats 400000 in
theorem senter (p n s : Int) (hn : I64 n) (hs : I64 s) (w : World) : Calls Tryz.prog 80 #[.int .i64 p, .int .i64 n, .int .i64 s] w fun e w' => e = .returned (.int .i64 (enterV p n s)) ∧ w = w' := by
  have HA := Lib.hid (nadd n s hn hs w)
  clear hn hs
  by_cases h : I64 (n + s)
  · have HS : Hid (satAdd n s = n + s) := by show _ = _; unfold satAdd; rw [if_pos h]
    rw [(fit_yes h).1, (fit_yes h).2] at HA
    clear h
    generalize n + s = m at HA HS
    go_enter Tryz.func80, Tryz.ntmps80
    go_wp2_with (first | (go_at_call 78; refine HA.out.mono ?_; rintro e w' ⟨rfl, rfl⟩) | (go_at_call 97; refine (nclamp _ _ _ _).mono ?_; rintro e w' ⟨rfl, rfl⟩))
    go_ret
    exact ⟨ret_int (by unfold enterV; rw [HS.out]), rfl⟩
  · by_cases h2 : s < 0
    · have HS : Hid (satAdd n s = -9223372036854775808) := by show _ = _; unfold satAdd; rw [if_neg h, if_pos h2]
      rw [(fit_no h).1, (fit_no h).2] at HA
      clear h
      go_enter Tryz.func80, Tryz.ntmps80
      go_wp2_with (first | (go_at_call 78; refine HA.out.mono ?_; rintro e w' ⟨rfl, rfl⟩) | (go_at_call 97; refine (nclamp _ _ _ _).mono ?_; rintro e w' ⟨rfl, rfl⟩))
      go_ret
      exact ⟨ret_int (by unfold enterV; rw [HS.out]), rfl⟩
    · have HS : Hid (satAdd n s = 9223372036854775807) := by show _ = _; unfold satAdd; rw [if_neg h, if_neg h2]
      rw [(fit_no h).1, (fit_no h).2] at HA
      clear h
      go_enter Tryz.func80, Tryz.ntmps80
      go_wp2_with (first | (go_at_call 78; refine HA.out.mono ?_; rintro e w' ⟨rfl, rfl⟩) | (go_at_call 97; refine (nclamp _ _ _ _).mono ?_; rintro e w' ⟨rfl, rfl⟩))
      go_ret
      exact ⟨ret_int (by unfold enterV; rw [HS.out]), rfl⟩
end Go.Proofs.YtabdipfpfbdghaaGreat

/- wherryref01: Clamp. -/
namespace Go.Proofs.YtabdipfpfbdghaaGreat
open Go.RowKit
theorem dClamp (x l m : Int) (w : World) : Calls Tryz.prog 101 #[.int .i64 x, .int .i64 l, .int .i64 m] w fun e w' => e = .returned (.int .i64 (clampV x l m)) ∧ w = w' := by
  have HV : Hid (clampV x l m = if (if m < x then m else x) < l then l else (if m < x then m else x)) := by
    show _ = _
    unfold clampV
    by_cases h1 : m < x <;> by_cases h2 : m < l <;> by_cases h3 : x < l <;> simp [h1, h2, h3] <;> omega
  generalize clampV x l m = r at *
  by_cases h1 : m < x
  · by_cases h2 : m < l
    · skip
      have hr : r = l := by rw [HV.out]; simp [h1, h2]
      subst hr
      clear HV
      go_enter Tryz.func101, Tryz.ntmps101
      go_wp2
      go_ret
      exact ⟨rfl, rfl⟩
    · skip
      have hr : r = m := by rw [HV.out]; simp [h1, h2]
      subst hr
      clear HV
      go_enter Tryz.func101, Tryz.ntmps101
      go_wp2
      go_ret
      exact ⟨rfl, rfl⟩
  · by_cases h2 : x < l
    · skip
      have hr : r = l := by rw [HV.out]; simp [h1, h2]
      subst hr
      clear HV
      go_enter Tryz.func101, Tryz.ntmps101
      go_wp2
      go_ret
      exact ⟨rfl, rfl⟩
    · skip
      have hr : r = x := by rw [HV.out]; simp [h1, h2]
      subst hr
      clear HV
      go_enter Tryz.func101, Tryz.ntmps101
      go_wp2
      go_ret
      exact ⟨rfl, rfl⟩
end Go.Proofs.YtabdipfpfbdghaaGreat

/- Package num: differences. -/
namespace Go.Proofs.YtabdipfpfbdghaaGreat
open Go.RowKit
set_option maxHeartbeats 1000000 in
theorem nsub (a b : Int) (ha : I64 a) (hb : I64 b) (w : World) :
    Calls Tryz.prog 44 #[.int .i64 a, .int .i64 b] w fun e w' => e = .returned (.tuple #[.int .i64 (fitV (a - b)), .bool (fitB (a - b))]) ∧ w = w' := by
  have HT := Lib.hid (sub_test ha hb)
  have HW := Lib.hid (fun h : I64 (a - b) => wrap64_id h)
  clear ha hb
  by_cases h1 : 0 ≤ a <;> by_cases h2 : 0 ≤ b <;> by_cases h3 : 0 ≤ wrap64 (a - b)
  all_goals
    go_enter Tryz.func44, Tryz.ntmps44
    go_wp2
    go_ret2
    first
    | (have hf := fit_yes (HT.out.2 (by omega))
       refine ⟨ret_ib ?_ hf.2.symm, rfl⟩
       rw [hf.1]
       exact HW.out (HT.out.2 (by omega)))
    | (have hf := fit_no (fun h => HT.out.1 h (by omega))
       exact ⟨ret_ib hf.1.symm hf.2.symm, rfl⟩)
end Go.Proofs.YtabdipfpfbdghaaGreat
