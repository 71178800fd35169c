/- Package event: Bytes and All of any events. -/
import Derived.Test.YtdnddoiemaifjaaCBytes
namespace Go.Proofs.Ytdnddoiemaifjaa
open Go.RowKit
theorem cbytes (e : Ev) (hI : ∀ x ∈ evRegs e, I64 x) (hg : goodB e = true) (w : World) : Calls Try.prog 19 #[evV e] w (Byt w (bytesEv e)) := by
  obtain ⟨e0, e1, e2, e3, e4, e5, e6, e7, e8, e9, e10, e11, e12, e13, e14⟩ := e
  cases hc : tC e0
  · exact cbytes_plain _ _ _ _ _ _ _ _ _ _ _ _ _ _ _ hg hI hc w
  · exact cbytes_ctx _ _ _ _ _ _ _ _ _ _ _ _ _ _ _ hg hI hc w
theorem bytesEv_length (e : Ev) : (bytesEv e).length ≤ 141 := by
  have h1 := enc_length e.act.toNat
  have h2 := enc_length e.thread.toNat
  have h3 := enc_length e.value.toNat
  have h4 := enc_length e.program.toNat
  have h5 := enc_length e.pc.toNat
  have h6 := enc_length e.depth.toNat
  have h7 := encs_length (evRegs e)
  have h8 : (evRegs e).length = 8 := rfl
  unfold bytesEv
  cases tT e.kind <;> cases tV e.kind <;> cases tC e.kind <;> simp <;> omega
theorem bytesEv_pos (e : Ev) : 0 < (bytesEv e).length := by simp [bytesEv]
/-- The bytes of a row that may be. -/
def rowE (l : List Ev) : List Int := enc l.length ++ l.flatMap bytesEv
def badE (l : List Ev) : Bool := l.any fun e => !goodB e
/-- A row's bytes. -/
def allE (l : List Ev) : List Int := if badE l then [] else rowE l
theorem flat_length (l : List Ev) : (l.flatMap bytesEv).length ≤ 141 * l.length := by
  induction l with
  | nil => simp
  | cons x l ih => have := bytesEv_length x; simp only [List.flatMap_cons, List.length_append, List.length_cons] at ih ⊢; omega
theorem flat_snoc (l : List Ev) (x : Ev) : (l ++ [x]).flatMap bytesEv = l.flatMap bytesEv ++ bytesEv x := by simp
/-- All's test. -/
theorem wrongE (e : Ev) (w : World) : Calls Try.prog 22 #[evV e] w fun x w' => x = .returned (.bool (!goodB e)) ∧ Below w.heap.size w w' := by
  have HG := Lib.hid (fun W => egood e W)
  have HAL : Hid (Below w.heap.size w (w.alloc (.cells (evC e).toArray 30))) := below_al (Below.refl _ _) _
  generalize goodB e = b at HG ⊢
  obtain ⟨e0, e1, e2, e3, e4, e5, e6, e7, e8, e9, e10, e11, e12, e13, e14⟩ := e
  unfold evV at HG ⊢
  unfold evC at HAL
  simp only at HG HAL ⊢
  go_enter Try.func22, Try.ntmps22
  go_wp2_with ((with_reducible refine (HG.out _).mono ?_); rintro x w1 ⟨rfl, hb1⟩)
  go_ret
  exact ⟨rfl, below_then HAL.out HAL.out.size hb1⟩
theorem containsEv (g : Nat) (lb : Array Value) (eg : ∀ args w, (callFunc g args).run Try.prog w = .ok (.enter g args) w) (p : Ev → Bool) (A : Option Addr) (n c : Nat) (xs : List Ev) (w : World) (hr : Rds w 15 A n c (evs xs))
    (hp : ∀ x ∈ xs, ∀ W, Below w.heap.size w W → Calls Try.prog g (#[evV x] ++ lb) W fun e w' => e = .returned (.bool (p x)) ∧ Below W.heap.size W w') :
    Calls Try.prog 23 #[.slice A n c, .func (.func g) #[] lb] w fun e w' => e = .returned (.bool (xs.any p)) ∧ Below w.heap.size w w' := by
  have HI := Lib.hid (indexEv g lb eg p A n c xs w hr hp)
  have HA := Lib.hid (idxP_any p xs)
  generalize idxP p xs = q at HI HA
  generalize xs.any p = b at HA
  clear hp hr eg
  go_enter Try.func23, Try.ntmps23
  go_wp2_with (go_at_call 20; refine HI.out.mono ?_; rintro e w' ⟨rfl, hb⟩)
  go_ret
  exact ⟨ret_bool HA.out, hb⟩
set_option maxRecDepth 100000 in
set_option maxHeartbeats 8000000 in
theorem ecall_bad (A : Option Addr) (n c : Nat) (l : List Ev) (w : World) (hr : Rds w 15 A n c (evs l)) (hn : n ≤ 1024) (hb : badE l = true) : Calls Try.prog 11 #[.slice A n c] w (Byt w []) := by
  have hC := containsEv 22 #[] (fun _ _ => rfl) (fun e => !goodB e) A n c l w hr (fun x _ W' _ => wrongE x W')
  unfold badE at hb
  rw [hb] at hC
  have HC := Lib.hid hC
  have hn2 : (n : Int) ≤ 1024 := by omega
  clear hC hb hr hn
  go_enter Try.func11, Try.ntmps11
  go_wp2_with ((with_reducible refine HC.out.mono ?_); rintro x w1 ⟨rfl, hb1⟩)
  go_ret
  exact ⟨none, 0, 0, rfl, hb1, rds_nil _ _⟩
set_option maxRecDepth 100000 in
set_option maxHeartbeats 8000000 in
theorem ecall_good (A : Option Addr) (n c : Nat) (l : List Ev) (w : World) (hr : Rds w 15 A n c (evs l)) (hn : n ≤ 1024) (hI : ∀ e ∈ l, ∀ x ∈ evRegs e, I64 x) (hb : badE l = false) : Calls Try.prog 11 #[.slice A n c] w (Byt w (rowE l)) := by
  have hC := containsEv 22 #[] (fun _ _ => rfl) (fun e => !goodB e) A n c l w hr (fun x _ W' _ => wrongE x W')
  have HGd : Hid (∀ e ∈ l, goodB e = true) := by
    show ∀ e ∈ l, goodB e = true
    intro e he
    have := List.any_eq_false.1 hb e he
    simpa using this
  unfold badE at hb
  rw [hb] at hC
  have HC := Lib.hid hC
  have HN := Lib.hid (evs_len hr)
  have HI := Lib.hid hI
  have HN2 : Hid (0 ≤ (n : Int) ∧ (n : Int) < 9223372036854775808) := by show _ ∧ _; omega
  have HN3 := Lib.hid hn
  have hn2 : (n : Int) ≤ 1024 := by omega
  clear hC hb hn hI
  go_enter Try.func11, Try.ntmps11
  go_wp2_with (first
    | (go_at_call 23; (with_reducible refine HC.out.mono ?_); rintro x w1 ⟨rfl, hb1⟩; have hr1 := hr.below hb1; have hr0 := rds_lit w1 3 1 1 (nums .i64 [(n : Int)]) rfl (by decide))
    | (go_at_call 24; refine (snums none 0 0 [] _ 1 1 [(n : Int)] _ (rds_nil _ _) hr0 (fun y hy => by simp at hy; subst hy; exact HN2.out) (by decide) (by decide) (by decide)).mono ?_; rintro x w2 ⟨v2, rfl, ho2, hb2⟩; clear hr0; have hr2 := hr1.below (below_tr (below_al (Below.refl _ _) _) hb2)))
  have hb4 := below_tr hb1 (below_tr (below_al (Below.refl _ _) (.cells #[.int .i64 n] 3)) hb2)
  have ho4 : w2.ownsRow w.heap.size 5 1 v2 (enc n ++ ([] : List Ev).flatMap bytesEv).length (nums .u8 (enc n ++ ([] : List Ev).flatMap bytesEv)) := by
    have := own_mono ho2 (base' := w.heap.size) (by have := hb1.size; simp; omega)
    simpa [encN] using this
  clear ho2 hb2 hr1 hb1 HC
  go_loopw [4, 21] (fun v i wr => ∃ k : Nat, k ≤ n ∧ i = .int .i64 k ∧ wr.ownsRow w.heap.size 5 1 v (enc n ++ (l.take k).flatMap bytesEv).length (nums .u8 (enc n ++ (l.take k).flatMap bytesEv)) ∧ Below w.heap.size w wr) (fun _ i _ => n - (intOf i).toNat)
  case atStart => exact ⟨0, Nat.zero_le _, rfl, ho4, hb4⟩
  case round =>
    obtain ⟨k, hk, rfl, ho, hb⟩ := hrel
    clear ho4 hb4 hr2
    by_cases hlt : k < n
    · have hkx : k < l.length := by rw [HN.out]; exact hlt
      obtain ⟨ad, rfl⟩ := hr.some_ (by omega)
      obtain ⟨h0, h1, h2, h3, h4, h5, h6, h7, h8, h9, h10, h11, h12, h13, h14⟩ := ev_read (hr.below hb) k l[k] (List.getElem?_eq_getElem hkx)
      have HB := Lib.hid (fun W => cbytes l[k] (HI.out _ (List.getElem_mem hkx)) (HGd.out _ (List.getElem_mem hkx)) W)
      have HT : Hid (enc n ++ (l.take k).flatMap bytesEv ++ bytesEv l[k] = enc n ++ (l.take (k + 1)).flatMap bytesEv) := by
        show _ = _
        rw [List.take_succ_eq_append_getElem hkx, flat_snoc, List.append_assoc]
      have hl1 := bytesEv_length l[k]
      have HL : Hid ((enc n ++ (l.take k).flatMap bytesEv).length + 141 ≤ 140737488355328) := by
        have h1 := enc_length n
        have h2 := flat_length (l.take k)
        have h3 : (l.take k).length ≤ k := by rw [List.length_take]; omega
        have h4 := HN3.out
        show _ ≤ _
        rw [List.length_append]
        omega
      generalize l[k] = y at h0 h1 h2 h3 h4 h5 h6 h7 h8 h9 h10 h11 h12 h13 h14 HB HT hl1
      generalize bytesEv y = by_ at HB HT hl1
      obtain ⟨e0, e1, e2, e3, e4, e5, e6, e7, e8, e9, e10, e11, e12, e13, e14⟩ := y
      unfold evV at HB
      simp only at h0 h1 h2 h3 h4 h5 h6 h7 h8 h9 h10 h11 h12 h13 h14 HB
      have hal : Below wr.heap.size wr (wr.alloc (.cells #[.int .i64 e0, .int .i64 e1, .int .i64 e2, .int .i64 e3, .int .i64 e4, .int .i64 e5, .int .i64 e6, .int .i64 e7, .int .i64 e8, .int .i64 e9, .int .i64 e10, .int .i64 e11, .int .i64 e12, .int .i64 e13, .int .i64 e14] 30)) := below_al (Below.refl _ _) _
      have HAL := Lib.hid hal
      clear hal
      go_wp2_with (first
        | (go_at_call 19; (with_reducible refine (HB.out _).mono ?_); rintro x w5 ⟨A5, n5, c5, rfl, hb5, hr5⟩; have hb6 := below_then HAL.out HAL.out.size hb5; have hn5 := rds_len hr5; have HM : Hid ((enc n ++ (l.take k).flatMap bytesEv).length + n5 ≤ 140737488355328) := (by have := HL.out; show _ ≤ _; omega); clear hl1 hn5 h0 h1 h2 h3 h4 h5 h6 h7 h8 h9 h10 h11 h12 h13 h14)
        | (at_builtin; refine apbs (w0 := w) (by rfl) _ _ (by rfl) _ _ A5 n5 c5 by_ (by rfl) (by rfl) hr5 (own_below ho hb6) (below_then hb hb.size hb6) HM.out ?_; intro v6 w6 ho6 hb7; rw [HT.out] at ho6))
      go_roundw
      case rel => exact ⟨k + 1, by omega, by go_num, ho6, hb7⟩
      case measure => simp only [intOf]; omega
    · obtain rfl : k = n := by omega
      rw [List.take_of_length_le (by rw [HN.out]; exact Nat.le_refl _)] at ho
      go_wp2
      go_ret
      obtain ⟨A9, c9, rfl, hr9⟩ := own_rds ho
      refine ⟨A9, _, c9, rfl, hb, ?_⟩
      unfold rowE
      rw [HN.out]
      exact hr9
theorem ecall (A : Option Addr) (n c : Nat) (l : List Ev) (w : World) (hr : Rds w 15 A n c (evs l)) (hn : n ≤ 1024) (hI : ∀ e ∈ l, ∀ x ∈ evRegs e, I64 x) : Calls Try.prog 11 #[.slice A n c] w (Byt w (allE l)) := by
  unfold allE
  cases hb : badE l
  · simpa using ecall_good A n c l w hr hn hI hb
  · simpa using ecall_bad A n c l w hr hn hb
end Go.Proofs.Ytdnddoiemaifjaa
