/- The document's example of package event. -/
import Derived.Test.YtdnddoiemaifjaaEv
import Derived.Test.YtdnddoiemaifjaaCodeNum
import Derived.Test.YtdnddoiemaifjaaChg
import Derived.Test.YtdnddoiemaifjaaEvSame
namespace Go.Proofs.Ytdnddoiemaifjaa
open Go.RowKit
set_option maxHeartbeats 2000000 in
theorem tells4 (w : World) : Calls Try.prog 39 #[.int .i64 4] w fun e w' => e = .returned (.tuple #[.agg #[.bool true, .bool true, .bool true, .bool false], .bool true]) ∧ Below w.heap.size w w' := by
  go_enter Try.func39, Try.ntmps39
  go_wp2
  exact bodyPost_ret (v := .tuple #[.agg #[.bool true, .bool true, .bool true, .bool false], .bool true]) (by simp [results, Try.results39, go_sem]) rfl ⟨rfl, below_al (Below.refl _ _) _⟩
set_option maxHeartbeats 2000000 in
theorem inT (n a b : Int) (h : a ≤ n ∧ n ≤ b) (w : World) : Calls Try.prog 40 #[.bool true, .int .i64 n, .int .i64 a, .int .i64 b] w fun e w' => e = .returned (.bool true) ∧ w = w' := by
  obtain ⟨h0, h1⟩ := h
  go_enter Try.func40, Try.ntmps40
  go_wp2
  go_ret
  exact ⟨rfl, rfl⟩
def encN (l : List Int) : List Int := l.flatMap fun x => enc x.toNat
theorem encN_snoc (l : List Int) (x : Int) : encN (l ++ [x]) = encN l ++ enc x.toNat := by simp [encN]
theorem encN_length (l : List Int) : (encN l).length ≤ 10 * l.length := by
  induction l with
  | nil => simp [encN]
  | cons x l ih =>
    have h := enc_length x.toNat
    simp only [encN, List.flatMap_cons, List.length_append, List.length_cons] at ih ⊢
    omega
set_option maxRecDepth 100000 in
set_option maxHeartbeats 2000000 in
theorem snums (A : Option Addr) (n c : Nat) (bs : List Int) (B : Option Addr) (m c2 : Nat) (l : List Int) (w : World) (hr : Rds w 1 A n c (nums .u8 bs)) (hr2 : Rds w 1 B m c2 (nums .i64 l)) (hl : ∀ x ∈ l, 0 ≤ x ∧ x < 9223372036854775808) (hm : 0 < m) (hm1 : m ≤ 1000) (hb : n ≤ 100000000) :
    Calls Try.prog 24 #[.slice A n c, .slice B m c2] w (Puts w (bs ++ encN l)) := by
  have HL := Lib.hid hl
  have HN := Lib.hid (rds_len hr2)
  have HB := Lib.hid (rds_len hr)
  clear hl
  go_enter Try.func24, Try.ntmps24
  go_wp2
  go_loopw [0, 9] (fun v i wr => ∃ k : Nat, k ≤ m ∧ i = .int .i64 k ∧ ∃ A1 n1 c1, v = .slice A1 n1 c1 ∧ Rds wr 1 A1 n1 c1 (nums .u8 (bs ++ encN (l.take k))) ∧ (0 < k → wr.ownsRow w.heap.size 5 1 v (bs ++ encN (l.take k)).length (nums .u8 (bs ++ encN (l.take k)))) ∧ Below w.heap.size w wr) (fun _ i _ => m - (intOf i).toNat)
  case atStart => exact ⟨0, Nat.zero_le _, rfl, A, n, c, rfl, by simpa [encN] using hr, (fun h => absurd h (Nat.lt_irrefl 0)), Below.refl _ _⟩
  case round =>
    obtain ⟨k, hk, rfl, A1, n1, c1, rfl, hr1, ho, hbw⟩ := hrel
    obtain ⟨W1, rfl⟩ : ∃ x, x = wr := ⟨_, rfl⟩
    by_cases hlt : k < m
    · have hkx : k < l.length := by rw [HN.out]; exact hlt
      obtain ⟨ad, rfl⟩ := hr2.some_ (by omega)
      have hc := (hr2.below hbw).cell ad rfl k _ (nums_get .i64 l k hkx)
      have hx := HL.out l[k] (List.getElem_mem hkx)
      have HT : Hid (bs ++ encN (l.take k) ++ enc l[k].toNat = bs ++ encN (l.take (k + 1))) := by
        show _ = _
        rw [List.take_succ_eq_append_getElem hkx, encN_snoc, List.append_assoc]
      have hn1 : n1 ≤ n + 10 * k := by
        have h1 := rds_len hr1
        have h2 := encN_length (l.take k)
        rw [List.length_append, HB.out] at h1
        rw [List.length_take] at h2
        omega
      generalize l[k] = y at *
      obtain ⟨y, rfl⟩ : ∃ z : Nat, y = z := ⟨y.toNat, by omega⟩
      obtain ⟨_, hx1⟩ := hx
      have hy : y < 18446744073709551616 := by omega
      have HC := Lib.hid (cnum A1 n1 c1 (bs ++ encN (l.take k)) y hy W1 hr1 (by omega))
      rw [Int.toNat_natCast] at HT
      rw [HT.out] at HC
      clear ho hr1
      go_wp2_with (go_at_call 44; (with_reducible refine HC.out.mono ?_); rintro e w2 h2; obtain ⟨A2, n2, c2', rfl, _, hr2', hb2, ho2⟩ := h2.open_)
      go_roundw
      case rel => exact ⟨k + 1, by omega, by go_num, A2, n2, c2', rfl, hr2', (fun _ => own_mono ho2 hbw.size), below_tr hbw hb2⟩
      case measure => simp only [intOf]; omega
    · obtain rfl : k = m := by omega
      rw [List.take_of_length_le (by rw [HN.out]; exact Nat.le_refl _)] at ho
      go_wp2
      go_ret
      exact ⟨_, rfl, ho hm, hbw⟩
/-- The closure that puts what is told. -/
theorem swhen_no (v l : Value) (w : World) : Calls Try.prog 42 #[.bool false, l, v] w fun e w' => e = .returned (.tuple #[]) ∧ w = w' := by
  go_enter Try.func42, Try.ntmps42
  go_wp2
  exact bodyPost_end (v := .tuple #[]) (by simp [results, Try.results42, go_sem]) rfl ⟨rfl, rfl⟩
set_option maxRecDepth 100000 in
set_option maxHeartbeats 2000000 in
theorem swhen (pb : Nat) (A : Option Addr) (n c : Nat) (bs : List Int) (B : Option Addr) (m c2 : Nat) (l : List Int) (w : World) (hx : Box w pb 0 (.slice A n c)) (hr : Rds w 1 A n c (nums .u8 bs)) (hr2 : Rds w 1 B m c2 (nums .i64 l)) (hl : ∀ x ∈ l, 0 ≤ x ∧ x < 9223372036854775808) (hm : 0 < m) (hm1 : m ≤ 1000) (hb : n ≤ 100000000) :
    Calls Try.prog 42 #[.bool true, .slice B m c2, .pointer (some ⟨pb, 0, none⟩)] w fun e w' => e = .returned (.tuple #[]) ∧ Chg (fun k => k = pb) w w' ∧ ∃ A1 n1 c1, Box w' pb 0 (.slice A1 n1 c1) ∧ Rds w' 1 A1 n1 c1 (nums .u8 (bs ++ encN l)) ∧ w'.ownsRow w.heap.size 5 1 (.slice A1 n1 c1) n1 (nums .u8 (bs ++ encN l)) := by
  have HC := Lib.hid (snums A n c bs B m c2 l w hr hr2 hl hm hm1 hb)
  have hc := hx.cell
  go_enter Try.func42, Try.ntmps42
  go_wp2_with (go_at_call 24; (with_reducible refine HC.out.mono ?_); rintro e w2 h2; obtain ⟨A2, n2, c2', rfl, _, hr2', hb2, ho2⟩ := h2.open_; have hx2 := hx.below hb2; have hf2 := hx2.free; have hc2 := hx2.cell)
  have hch : Chg (fun k => k = pb) w (w2.setCell ⟨pb, 0, none⟩ (.slice A2 n2 c2')) := (Chg.of_below hb2).setCell pb 0 _ rfl
  have hbn : ∀ k, (Value.slice A2 n2 c2').ownBlock = some k → ¬ k = pb := fun k hk e => by
    have h1 := own_base ho2 k hk
    have h2 := hx.lt
    omega
  have hch2 : Chg (fun k => k = pb) w2 (w2.setCell ⟨pb, 0, none⟩ (.slice A2 n2 c2')) := (Chg.refl _ _).setCell pb 0 _ rfl
  have ho3 := hch2.own ho2 hbn
  have hn2 : (bs ++ encN l).length = n2 := rds_len hr2'
  rw [hn2] at ho3
  obtain ⟨_, hr3⟩ := own_rds' ho3
  exact bodyPost_end (v := .tuple #[]) (by simp [results, Try.results42, go_sem]) rfl ⟨rfl, hch, A2, n2, c2', hx2.set _, hr3, ho3⟩
end Go.Proofs.Ytdnddoiemaifjaa
