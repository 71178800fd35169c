/- What puts ints, texts, flags and lists into bytes: package code, and the reference: the same bytes. -/
import Derived.Test.YtdhckbpfkdekmaaCodePut
namespace Go.Proofs.Ytdhckbpfkdekmaa
open Go.RowKit
set_option maxHeartbeats 400000 in
theorem czig (n : Int) (hn : I64 n) (w : World) : Calls Try.prog 36 #[.int .i64 n] w fun e w' => e = .returned (.int .u64 (zigN n)) ∧ w = w' := by
  have H := Lib.hid hn
  clear hn
  go_enter Try.func36, Try.ntmps36
  go_wp2
  go_ret
  refine ⟨?_, rfl⟩
  rw [← zig_code n H.out.1 H.out.2]
  first | rfl | (simp; done)
set_option maxHeartbeats 400000 in
theorem rzig (n : Int) (hn : I64 n) (w : World) : Calls Try.prog 37 #[.int .i64 n] w fun e w' => e = .returned (.int .u64 (zigN n)) ∧ w = w' := by
  have H := Lib.hid hn
  clear hn
  by_cases h : 0 ≤ n
  · go_enter Try.func37, Try.ntmps37
    go_wp2
    go_ret
    refine ⟨ret_int ?_, rfl⟩
    have h1 := H.out.2
    have h2 := H.out.1
    simp only [IntKind.wrap_u64, zigN]
    rw [if_pos h]
    omega
  · go_enter Try.func37, Try.ntmps37
    go_wp2
    go_ret
    refine ⟨ret_int ?_, rfl⟩
    have h1 := H.out.2
    have h2 := H.out.1
    simp only [IntKind.wrap_u64, zigN, wrap64]
    rw [if_neg (by omega)]
    omega
set_option maxHeartbeats 400000 in
theorem cint (A : Option Addr) (n c : Nat) (bs : List Int) (x : Int) (hx : I64 x) (w : World) (hr : Rds w 1 A n c (nums .u8 bs)) (hb : n ≤ 140737488000000) :
    Calls Try.prog 12 #[.slice A n c, .int .i64 x] w (Puts w (bs ++ enc (zigN x))) := by
  have H := Lib.hid hx
  have HZ := Lib.hid (zigN_lt x hx.1 hx.2)
  clear hx
  go_enter Try.func12, Try.ntmps12
  go_wp2_with (first | (go_at_call 36; refine (czig _ H.out _).mono ?_; rintro e w' ⟨rfl, rfl⟩) | (go_at_call 10; refine (cnum _ _ _ _ _ HZ.out _ hr hb).mono ?_; rintro e w1 ⟨v, rfl, hown, hbel⟩))
  go_ret
  exact ⟨v, rfl, hown, hbel⟩
set_option maxHeartbeats 400000 in
theorem rint (A : Option Addr) (n c : Nat) (bs : List Int) (x : Int) (hx : I64 x) (w : World) (hr : Rds w 1 A n c (nums .u8 bs)) (hb : n ≤ 140737488000000) :
    Calls Try.prog 13 #[.slice A n c, .int .i64 x] w (Puts w (bs ++ enc (zigN x))) := by
  have H := Lib.hid hx
  have HZ := Lib.hid (zigN_lt x hx.1 hx.2)
  clear hx
  go_enter Try.func13, Try.ntmps13
  go_wp2_with (first | (go_at_call 37; refine (rzig _ H.out _).mono ?_; rintro e w' ⟨rfl, rfl⟩) | (go_at_call 11; refine (rnum _ _ _ _ _ HZ.out _ hr hb).mono ?_; rintro e w1 ⟨v, rfl, hown, hbel⟩))
  go_ret
  exact ⟨v, rfl, hown, hbel⟩
theorem strCells_nums (s : ByteArray) : Lib.strCells s = nums .u8 (bytesOf s) := by
  simp [Lib.strCells, nums, bytesOf]
set_option maxHeartbeats 400000 in
theorem ctext (A : Option Addr) (n c : Nat) (bs : List Int) (s : ByteArray) (hs : s.size ≤ 140737480000000) (w : World) (hr : Rds w 1 A n c (nums .u8 bs)) (hb : n ≤ 1000000) :
    Calls Try.prog 14 #[.slice A n c, .string s] w (Puts w (bs ++ enc s.size ++ bytesOf s)) := by
  have HN := Lib.hid (rds_len hr)
  have hel := enc_length s.size
  go_enter Try.func14, Try.ntmps14
  go_wp2_with (first | (go_at_call 10; refine (cnum _ _ _ _ s.size (by omega) _ hr (by omega)).mono ?_; rintro e w1 ⟨v, rfl, hown, hbel⟩) | (at_builtin; refine aps w.heap.size (by rfl) _ _ 22 9 5 (by rfl) Try.underlying22 Try.underlying9 info_u8 _ _ _ s (by rfl) (by rfl) hown hbel hbel.size (by rw [List.length_append, HN.out]; omega) ?_; intro v1 w2 hown1 hbel1 _))
  go_ret
  refine ⟨v1, rfl, ?_, hbel1⟩
  rw [strCells_nums] at hown1
  exact own_nums_app hown1 rfl rfl (bytesOf_length s).symm
set_option maxHeartbeats 400000 in
theorem rtext (A : Option Addr) (n c : Nat) (bs : List Int) (s : ByteArray) (hs : s.size ≤ 140737480000000) (w : World) (hr : Rds w 1 A n c (nums .u8 bs)) (hb : n ≤ 1000000) :
    Calls Try.prog 15 #[.slice A n c, .string s] w (Puts w (bs ++ enc s.size ++ bytesOf s)) := by
  have HN := Lib.hid (rds_len hr)
  have hel := enc_length s.size
  go_enter Try.func15, Try.ntmps15
  go_wp2_with (first | (go_at_call 11; refine (rnum _ _ _ _ s.size (by omega) _ hr (by omega)).mono ?_; rintro e w1 ⟨v, rfl, hown, hbel⟩) | (at_builtin; refine aps w.heap.size (by rfl) _ _ 22 9 5 (by rfl) Try.underlying22 Try.underlying9 info_u8 _ _ _ s (by rfl) (by rfl) hown hbel hbel.size (by rw [List.length_append, HN.out]; omega) ?_; intro v1 w2 hown1 hbel1 _))
  go_ret
  refine ⟨v1, rfl, ?_, hbel1⟩
  rw [strCells_nums] at hown1
  exact own_nums_app hown1 rfl rfl (bytesOf_length s).symm
def flagN (b : Bool) : Int := if b then 1 else 0
set_option maxHeartbeats 400000 in
theorem cflag (A : Option Addr) (n c : Nat) (bs : List Int) (f : Bool) (w : World) (hr : Rds w 1 A n c (nums .u8 bs)) (hb : n ≤ 1000000) :
    Calls Try.prog 16 #[.slice A n c, .bool f] w (Puts w (bs ++ [flagN f])) := by
  have HN := rds_len hr
  have hl : bs.length < 140737488355328 := by omega
  have HN := Lib.hid HN
  cases f
  all_goals
    go_enter Try.func16, Try.ntmps16
    go_wp2_with (first | (go_at_call 35; refine (bclone _ _ _ _ _ hr (by omega)).mono ?_; rintro e w1 ⟨v, rfl, hown, hbel⟩) | (at_builtin; refine apb (w0 := w) (by rfl) _ _ (by rfl) _ _ _ (by rfl) (by rfl) hown hbel hl ?_; intro v1 w1 hown1 hbel1))
    go_ret
    exact ⟨v1, rfl, hown1, hbel1⟩
set_option maxHeartbeats 400000 in
theorem rflag (A : Option Addr) (n c : Nat) (bs : List Int) (f : Bool) (w : World) (hr : Rds w 1 A n c (nums .u8 bs)) (hb : n ≤ 1000000) :
    Calls Try.prog 17 #[.slice A n c, .bool f] w (Puts w (bs ++ [flagN f])) := by
  have HN := rds_len hr
  have hl : bs.length < 140737488355328 := by omega
  have HN := Lib.hid HN
  cases f
  all_goals
    go_enter Try.func17, Try.ntmps17
    go_wp2_with (first | (at_builtin; refine apb (w0 := w) (by rfl) _ _ (by rfl) _ _ _ (by rfl) (by rfl) hown hbel hl ?_; intro v2 w2 hown2 hbel2) | (at_builtin; refine apbs (w0 := w) (by rfl) _ _ (by rfl) _ [] A n c bs (by rfl) (by rfl) (hr.below (below_al (Below.refl _ _) _)) (lit_own (Below.refl _ _) _) (below_al (Below.refl _ _) _) (by simp; omega) ?_; intro v1 w1 hown hbel))
    go_ret
    exact ⟨v2, rfl, hown2, hbel2⟩
set_option maxHeartbeats 400000 in
theorem cints (A : Option Addr) (n c : Nat) (bs : List Int) (B : Option Addr) (m d : Nat) (xs : List Int) (hx : ∀ x ∈ xs, I64 x) (w : World) (hr : Rds w 1 A n c (nums .u8 bs)) (hr2 : Rds w 1 B m d (nums .i64 xs)) (hb : n ≤ 1000000) (hm : m ≤ 1000000) :
    Calls Try.prog 18 #[.slice A n c, .slice B m d] w (Puts w (bs ++ enc m ++ encs xs)) := by
  have HN := Lib.hid (rds_len hr)
  have HM := Lib.hid (rds_len hr2)
  have HX := Lib.hid hx
  have hel := enc_length m
  clear hx
  go_enter Try.func18, Try.ntmps18
  go_wp2_with (go_at_call 10; refine (cnum _ _ _ _ m (by omega) _ hr (by omega)).mono ?_; rintro e w1 ⟨v, rfl, hown, hbel⟩)
  go_loopw [5, 15] (fun v i wr => ∃ (k : Nat) (zs : List Int), k ≤ m ∧ i = .int .i64 k ∧ wr.ownsRow w.heap.size 5 1 v zs.length (nums .u8 zs) ∧ Below w.heap.size w wr ∧ Hid (zs = bs ++ enc m ++ encs (xs.take k))) (fun _ i _ => m - (intOf i).toNat)
  case atStart => exact ⟨0, _, by omega, rfl, hown, hbel, by show _ = _; simp [encs]⟩
  case round =>
    obtain ⟨k, zs, hk, rfl, hownr, hbr, HZ⟩ := hrel
    clear hown hbel
    have hl : zs.length ≤ 100000000 := by
      have h1 := encs_length (xs.take k)
      have h2 := List.length_take_le k xs
      rw [HZ.out, List.length_append, List.length_append, HN.out]; omega
    by_cases hlt : k < m
    · have hkx : k < xs.length := by rw [HM.out]; exact hlt
      obtain ⟨ad, rfl⟩ := hr2.some_ (by omega)
      have hcell := (hr2.below hbr).cell ad rfl k _ (nums_get .i64 xs k hkx)
      obtain ⟨x, hxk⟩ : ∃ x, x = xs[k] := ⟨_, rfl⟩
      rw [← hxk] at hcell
      have HI := Lib.hid (HX.out xs[k] (List.getElem_mem hkx))
      rw [← hxk] at HI
      have HK := Lib.hid hxk
      clear hxk
      obtain ⟨A1, c1, rfl, hrv⟩ := own_rds hownr
      clear hownr
      go_wp2_with (go_at_call 12; refine (cint _ _ _ _ _ HI.out _ hrv (by omega)).mono ?_; rintro e w2 ⟨v2, rfl, hown2, hbel2⟩)
      go_roundw
      case rel =>
        refine ⟨k + 1, _, by omega, by go_num, own_mono hown2 hbr.size, below_tr hbr hbel2, ?_⟩
        show _ = _
        rw [List.take_succ_eq_append_getElem hkx, encs_snoc, HZ.out, HK.out]
        simp
      case measure => simp [intOf]; omega
    · have hkm : k = m := by omega
      have HZ2 := Lib.hid (show zs = bs ++ enc m ++ encs xs by rw [HZ.out, hkm, List.take_of_length_le (by rw [HM.out]; omega)])
      clear hkm HZ
      go_wp2
      go_ret
      refine ⟨_, rfl, ?_, hbr⟩
      rw [← HZ2.out]
      exact hownr
set_option maxHeartbeats 400000 in
theorem rints (A : Option Addr) (n c : Nat) (bs : List Int) (B : Option Addr) (m d : Nat) (xs : List Int) (hx : ∀ x ∈ xs, I64 x) (w : World) (hr : Rds w 1 A n c (nums .u8 bs)) (hr2 : Rds w 1 B m d (nums .i64 xs)) (hb : n ≤ 1000000) (hm : m ≤ 1000000) :
    Calls Try.prog 19 #[.slice A n c, .slice B m d] w (Puts w (bs ++ enc m ++ encs xs)) := by
  have HN := Lib.hid (rds_len hr)
  have HM := Lib.hid (rds_len hr2)
  have HX := Lib.hid hx
  have hel := enc_length m
  clear hx
  go_enter Try.func19, Try.ntmps19
  go_wp2_with (go_at_call 11; refine (rnum _ _ _ _ m (by omega) _ hr (by omega)).mono ?_; rintro e w1 ⟨v, rfl, hown, hbel⟩)
  go_loopw [0, 14] (fun v i wr => ∃ (k : Nat) (zs : List Int), k ≤ m ∧ i = .int .i64 k ∧ wr.ownsRow w.heap.size 5 1 v zs.length (nums .u8 zs) ∧ Below w.heap.size w wr ∧ Hid (zs = bs ++ enc m ++ encs (xs.take k))) (fun _ i _ => m - (intOf i).toNat)
  case atStart => exact ⟨0, _, by omega, rfl, hown, hbel, by show _ = _; simp [encs]⟩
  case round =>
    obtain ⟨k, zs, hk, rfl, hownr, hbr, HZ⟩ := hrel
    clear hown hbel
    have hl : zs.length ≤ 100000000 := by
      have h1 := encs_length (xs.take k)
      have h2 := List.length_take_le k xs
      rw [HZ.out, List.length_append, List.length_append, HN.out]; omega
    by_cases hlt : k < m
    · have hkx : k < xs.length := by rw [HM.out]; exact hlt
      obtain ⟨ad, rfl⟩ := hr2.some_ (by omega)
      have hcell := (hr2.below hbr).cell ad rfl k _ (nums_get .i64 xs k hkx)
      obtain ⟨x, hxk⟩ : ∃ x, x = xs[k] := ⟨_, rfl⟩
      rw [← hxk] at hcell
      have HI := Lib.hid (HX.out xs[k] (List.getElem_mem hkx))
      rw [← hxk] at HI
      have HK := Lib.hid hxk
      clear hxk
      obtain ⟨A1, c1, rfl, hrv⟩ := own_rds hownr
      clear hownr
      go_wp2_with (go_at_call 13; refine (rint _ _ _ _ _ HI.out _ hrv (by omega)).mono ?_; rintro e w2 ⟨v2, rfl, hown2, hbel2⟩)
      go_roundw
      case rel =>
        refine ⟨k + 1, _, by omega, by go_num, own_mono hown2 hbr.size, below_tr hbr hbel2, ?_⟩
        show _ = _
        rw [List.take_succ_eq_append_getElem hkx, encs_snoc, HZ.out, HK.out]
        simp
      case measure => simp [intOf]; omega
    · have hkm : k = m := by omega
      have HZ2 := Lib.hid (show zs = bs ++ enc m ++ encs xs by rw [HZ.out, hkm, List.take_of_length_le (by rw [HM.out]; omega)])
      clear hkm HZ
      go_wp2
      go_ret
      refine ⟨_, rfl, ?_, hbr⟩
      rw [← HZ2.out]
      exact hownr
end Go.Proofs.Ytdhckbpfkdekmaa
