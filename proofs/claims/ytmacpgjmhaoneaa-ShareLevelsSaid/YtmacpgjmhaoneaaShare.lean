/- Package share: Good, round, next. -/
import Derived.Test.YtmacpgjmhaoneaaShareIdx
import Derived.Test.YtmacpgjmhaoneaaNumE
import Derived.Test.YtmacpgjmhaoneaaNumD
import Derived.Test.YtmacpgjmhaoneaaRegionJ
import Derived.Test.YtmacpgjmhaoneaaChg
namespace Go.Proofs.Ytmacpgjmhaoneaa
open Go.RowKit
theorem info_int : (Try.prog.info? 3).map (fun i => (i.zero, i.size, i.bytes)) = some (some (.int .i64 0), 1, 8) := by kernel_rfl
set_option maxHeartbeats 1000000 in
theorem hgood1 (c : Cl) (w : World) : Calls Try.prog 21 #[clV c] w fun e w' => e = .returned (.bool (wrongC c)) ∧ Below w.heap.size w w' := by
  obtain ⟨a, b⟩ := c
  have HV : Hid (wrongC ⟨a, b⟩ = (decide (a < 1) || decide (65536 < a) || decide (b < 0) || decide (64 < b))) := rfl
  generalize wrongC ⟨a, b⟩ = v at HV ⊢
  unfold clV
  by_cases h1 : a < 1 <;> by_cases h2 : 65536 < a <;> by_cases h3 : b < 0 <;> by_cases h4 : 64 < b
  all_goals first
    | (exfalso; omega)
    | skip
  all_goals
    go_enter Try.func21, Try.ntmps21
    go_wp2
    go_ret
    refine ⟨ret_bool ?_, below_al (Below.refl _ _) _⟩
    rw [HV.out]
    simp [h1, h2, h3, h4]
set_option maxHeartbeats 400000 in
theorem hgood (A : Option Addr) (n c : Nat) (l : List Cl) (w : World) (hr : Rds w 2 A n c (cls l)) :
    Calls Try.prog 12 #[.slice A n c] w fun e w' => e = .returned (.bool (goodC l)) ∧ Below w.heap.size w w' := by
  have eg : ∀ args w, (callFunc 21 args).run Try.prog w = .ok (.enter 21 args) w := Go.Proofs.enters_of Try.func21 (by kernel_rfl) rfl
  have HI := Lib.hid (containsCl 21 #[] eg wrongC A n c l w hr (fun x _ W _ => hgood1 x W))
  have hv : goodC l = (decide (l.length ≤ 64) && !l.any wrongC) := rfl
  rw [cls_len hr] at hv
  have HV := Lib.hid hv
  clear hv
  generalize goodC l = v at HV ⊢
  generalize l.any wrongC = b at HI HV
  clear eg hr
  by_cases h1 : (n : Int) ≤ 64
  all_goals
    go_enter Try.func12, Try.ntmps12
    go_wp2_with ((with_reducible refine HI.out.mono ?_); rintro e w1 ⟨rfl, hb1⟩)
    go_ret
    first
    | (refine ⟨ret_bool ?_, hb1⟩; rw [HV.out]; simp; omega)
    | (refine ⟨ret_bool ?_, Below.refl _ _⟩; rw [HV.out]; simp; omega)
def atN (start : Int) (n : Nat) : Nat := (start % n).toNat
def numsN (l : List Nat) : List Value := l.map fun (i : Nat) => .int .i64 (i : Int)
theorem numsN_nums (l : List Nat) : numsN l = nums .i64 (l.map fun (i : Nat) => (i : Int)) := by simp [numsN, nums]
set_option maxRecDepth 100000 in
set_option maxHeartbeats 1000000 in
theorem hround (n : Nat) (start : Int) (w : World) (h0 : 0 < n) (h1 : n ≤ 64) (hs : I64 start) :
    Calls Try.prog 18 #[.int .i64 n, .int .i64 start] w fun e w' => (∃ v, e = .returned v ∧ w'.ownsRow w.heap.size 3 1 v n (numsN (roundC n (atN start n)))) ∧ Below w.heap.size w w' := by
  have HD := Lib.hid (fun W => ndiv start n hs (by unfold I64; omega) (by unfold divB; simp; omega) W)
  have HAT : Hid (atN start n = (start % n).toNat) := rfl
  have hat : atN start n < n := by unfold atN; have := Int.emod_lt_of_pos start (show (0 : Int) < n by omega); have := Int.emod_nonneg start (show (n : Int) ≠ 0 by omega); omega
  have HR := Lib.hid (fun (q r : Int) (h : DivR start n q r) => (show r = ((atN start n : Nat) : Int) from by
    have h1 := h.pos (by omega)
    have h2 := h.eq
    have h3 : start % (n : Int) = r := by rw [h2, Int.add_comm, Int.add_mul_emod_self_right]; exact Int.emod_eq_of_lt h1.1 h1.2
    unfold atN; omega))
  generalize atN start n = a at *
  clear hs
  go_enter Try.func18, Try.ntmps18
  go_wp2_with (first | ((with_reducible refine (HD.out _).mono ?_); rintro e w1 ⟨⟨q, r, rfl, hd⟩, n1, rfl⟩; obtain rfl := HR.out q r hd; clear hd) | (refine mk0 (w0 := w) w.heap.size rfl _ _ 25 3 _ 1 8 rfl Try.underlying25 info_int .i64 .i64 _ n (by rfl) (by rfl) rfl (by omega) (by unfold maxLen; omega) (below_dr (Below.refl _ _) _) (Nat.le_refl _) ?_; intro w2 ho2 hb2 hg2))
  go_loopw [8, 20] (fun v i wr => ∃ k : Nat, k ≤ n ∧ i = .int .i64 k ∧ wr.ownsRow w.heap.size 3 1 v k (numsN ((List.range k).map fun j => (a + j) % n)) ∧ Below w.heap.size w wr) (fun _ i _ => n - (intOf i).toNat)
  case atStart => exact ⟨0, Nat.zero_le _, rfl, by simpa [numsN] using ho2, hb2⟩
  case round =>
    obtain ⟨k, hk, rfl, ho, hb⟩ := hrel
    clear ho2 hb2 hg2
    by_cases hlt : k < n
    · have hm1 : ((a : Int) + (k : Int)) % (n : Int) = (((a + k) % n : Nat) : Int) := by rw [Int.natCast_emod, Int.natCast_add]
      have HM1 := Lib.hid hm1
      clear hm1
      have hn0 : (0 : Int) < n := by omega
      go_wp2_with (at_builtin; (refine ap1 (w0 := w) w.heap.size rfl _ _ 25 3 _ 8 (by rfl) Try.underlying25 info_int rfl (by decide) _ _ _ _ (by rfl) (by rfl) rfl ho hb hb.size (by omega) ?_); intro v1 w1 ho1 hb1 _ _)
      go_roundw
      case rel => exact ⟨k + 1, by omega, by go_num, by rw [HM1.out] at ho1; rw [List.range_succ, List.map_append, show ∀ l l' : List Nat, numsN (l ++ l') = numsN l ++ numsN l' from fun l l' => by simp [numsN]]; exact ho1, hb1⟩
      case measure => simp [intOf]; omega
    · obtain rfl : k = n := by omega
      go_wp2
      go_ret
      exact ⟨⟨_, rfl, ho⟩, hb⟩
end Go.Proofs.Ytmacpgjmhaoneaa
