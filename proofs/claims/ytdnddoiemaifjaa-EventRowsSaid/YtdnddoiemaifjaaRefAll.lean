/- The reference's All of any events. -/
import Derived.Test.YtdnddoiemaifjaaEvAll
namespace Go.Proofs.Ytdnddoiemaifjaa
open Go.RowKit
set_option maxRecDepth 100000 in
set_option maxHeartbeats 8000000 in
theorem rcall (A : Option Addr) (n c : Nat) (l : List Ev) (w : World) (hr : Rds w 15 A n c (evs l)) (hn : n ≤ 1024) (hI : ∀ e ∈ l, ∀ x ∈ evRegs e, I64 x) : Calls Try.prog 12 #[.slice A n c] w (Byt w (allE l)) := by
  have HN := Lib.hid (evs_len hr)
  have HI := Lib.hid hI
  have HN3 := Lib.hid hn
  have hn2 : (n : Int) ≤ 1024 := by omega
  have hwn : IntKind.u64.wrap (n : Int) = n := by rw [IntKind.wrap_u64]; omega
  have HC := Lib.hid (rnum none 0 0 [] n (by omega) w (rds_nil _ _) (by decide))
  rw [List.nil_append] at HC
  have q22 : ∀ (w : World) (a : Option Addr) (n c n' c' : Nat), (binOp .eql 33 (.slice a n c) (.slice none n' c')).run Try.prog w = .ok (.bool a.isNone) w := fun w a n c n' c' => Lib.run_eql_slice_nil w _ _ a n c n' c' Try.underlying33
  clear hn hI
  go_enter Try.func12, Try.ntmps12
  go_wp2_with ((with_reducible refine HC.out.mono ?_); rintro x w2 ⟨v2, rfl, ho2, hb2⟩)
  have ho4 : w2.ownsRow w.heap.size 5 1 v2 (enc n ++ ([] : List Ev).flatMap bytesEv).length (nums .u8 (enc n ++ ([] : List Ev).flatMap bytesEv)) := by
    simpa using ho2
  clear ho2 HC
  go_loopw [3, 16] (fun v i wr => ∃ k : Nat, k ≤ n ∧ i = .int .i64 k ∧ wr.ownsRow w.heap.size 5 1 v (enc n ++ (l.take k).flatMap bytesEv).length (nums .u8 (enc n ++ (l.take k).flatMap bytesEv)) ∧ Below w.heap.size w wr ∧ Hid (badE (l.take k) = false)) (fun _ i _ => n - (intOf i).toNat)
  case atStart => exact ⟨0, Nat.zero_le _, rfl, ho4, hb2, rfl⟩
  case round =>
    obtain ⟨k, hk, rfl, ho, hb, HBd⟩ := hrel
    clear ho4 hb2
    by_cases hlt : k < n
    · have hkx : k < l.length := by rw [HN.out]; exact hlt
      obtain ⟨ad, rfl⟩ := hr.some_ (by omega)
      obtain ⟨h0, h1, h2, h3, h4, h5, h6, h7, h8, h9, h10, h11, h12, h13, h14⟩ := ev_read (hr.below hb) k l[k] (List.getElem?_eq_getElem hkx)
      cases hg : goodB l[k] with
      | true =>
        have HB := Lib.hid (fun W => rbytes l[k] (HI.out _ (List.getElem_mem hkx)) hg W)
        have HT : Hid (enc n ++ (l.take k).flatMap bytesEv ++ bytesEv l[k] = enc n ++ (l.take (k + 1)).flatMap bytesEv) := by
          show _ = _
          rw [List.take_succ_eq_append_getElem hkx, flat_snoc, List.append_assoc]
        have HD : Hid (badE (l.take (k + 1)) = false) := by
          show _ = _
          have h1 := HBd.out
          unfold badE at h1 ⊢
          rw [List.take_succ_eq_append_getElem hkx, List.any_append, h1]
          simp [hg]
        have hl1 := bytesEv_length l[k]
        have hl0 := bytesEv_pos l[k]
        have HL : Hid ((enc n ++ (l.take k).flatMap bytesEv).length + 141 ≤ 140737488355328) := by
          have h1 := enc_length n
          have h2 := flat_length (l.take k)
          have h3 : (l.take k).length ≤ k := by rw [List.length_take]; omega
          have h4 := HN3.out
          show _ ≤ _
          rw [List.length_append]
          omega
        clear hg
        generalize l[k] = y at h0 h1 h2 h3 h4 h5 h6 h7 h8 h9 h10 h11 h12 h13 h14 HB HT hl1 hl0
        generalize bytesEv y = by_ at HB HT hl1 hl0
        obtain ⟨e0, e1, e2, e3, e4, e5, e6, e7, e8, e9, e10, e11, e12, e13, e14⟩ := y
        unfold evV at HB
        simp only at h0 h1 h2 h3 h4 h5 h6 h7 h8 h9 h10 h11 h12 h13 h14 HB
        have hal : Below wr.heap.size wr (wr.alloc (.cells #[.int .i64 e0, .int .i64 e1, .int .i64 e2, .int .i64 e3, .int .i64 e4, .int .i64 e5, .int .i64 e6, .int .i64 e7, .int .i64 e8, .int .i64 e9, .int .i64 e10, .int .i64 e11, .int .i64 e12, .int .i64 e13, .int .i64 e14] 30)) := below_al (Below.refl _ _) _
        have HAL := Lib.hid hal
        clear hal
        go_wp2_with (first
          | (go_at_call 26; (with_reducible refine (HB.out _).mono ?_); rintro x w5 ⟨A5, n5, c5, rfl, hb5, hr5⟩; have hb6 := below_then HAL.out HAL.out.size hb5; have hn5 := rds_len hr5; obtain ⟨ad5, rfl⟩ := hr5.some_ (by omega); have HM : Hid ((enc n ++ (l.take k).flatMap bytesEv).length + n5 ≤ 140737488355328) := (by have := HL.out; show _ ≤ _; omega); clear hl1 hl0 hn5 h0 h1 h2 h3 h4 h5 h6 h7 h8 h9 h10 h11 h12 h13 h14)
          | (at_builtin; refine apbs (w0 := w) (by rfl) _ _ (by rfl) _ _ (some ad5) n5 c5 by_ (by rfl) (by rfl) hr5 (own_below ho hb6) (below_then hb hb.size hb6) HM.out ?_; intro v6 w6 ho6 hb7; rw [HT.out] at ho6))
        go_roundw
        case rel => exact ⟨k + 1, by omega, by go_num, ho6, hb7, HD⟩
        case measure => simp only [intOf]; omega
      | false =>
        have HB := Lib.hid (fun W => rbytes_bad l[k] hg W)
        have HD : Hid (allE l = []) := by
          show _ = _
          have : badE l = true := by
            unfold badE
            exact List.any_eq_true.2 ⟨l[k], List.getElem_mem hkx, by rw [hg]; rfl⟩
          unfold allE
          rw [this]
          rfl
        clear hg
        generalize l[k] = y at h0 h1 h2 h3 h4 h5 h6 h7 h8 h9 h10 h11 h12 h13 h14 HB
        obtain ⟨e0, e1, e2, e3, e4, e5, e6, e7, e8, e9, e10, e11, e12, e13, e14⟩ := y
        unfold evV at HB
        simp only at h0 h1 h2 h3 h4 h5 h6 h7 h8 h9 h10 h11 h12 h13 h14 HB
        have hal : Below wr.heap.size wr (wr.alloc (.cells #[.int .i64 e0, .int .i64 e1, .int .i64 e2, .int .i64 e3, .int .i64 e4, .int .i64 e5, .int .i64 e6, .int .i64 e7, .int .i64 e8, .int .i64 e9, .int .i64 e10, .int .i64 e11, .int .i64 e12, .int .i64 e13, .int .i64 e14] 30)) := below_al (Below.refl _ _) _
        have HAL := Lib.hid hal
        clear hal
        go_wp2_with ((with_reducible refine (HB.out _).mono ?_); rintro x w5 ⟨rfl, hb5⟩; clear h0 h1 h2 h3 h4 h5 h6 h7 h8 h9 h10 h11 h12 h13 h14)
        go_ret
        rw [HD.out]
        exact ⟨none, 0, 0, rfl, below_then hb hb.size (below_then HAL.out HAL.out.size hb5), rds_nil _ _⟩
    · obtain rfl : k = n := by omega
      rw [List.take_of_length_le (by rw [HN.out]; exact Nat.le_refl _)] at ho HBd
      go_wp2
      go_ret
      obtain ⟨A9, c9, rfl, hr9⟩ := own_rds ho
      refine ⟨A9, _, c9, rfl, hb, ?_⟩
      unfold allE rowE
      rw [HBd.out, HN.out]
      exact hr9
end Go.Proofs.Ytdnddoiemaifjaa
