/- Num of package code: the bytes of a number. -/
import Derived.Test.YtdnddoiemaifjaaRows
import Derived.Test.YtdnddoiemaifjaaBase
import Derived.Test.YtdnddoiemaifjaaCodePlain
namespace Go.Proofs.Ytdnddoiemaifjaa
open Go.RowKit
theorem info_u8 : (Try.prog.info? 5).map (fun i => (i.zero, i.size, i.bytes)) = some (some (.int .u8 0), 1, 1) := by kernel_rfl
/-- A new row of bytes. -/
def Puts (w : World) (bs : List Int) (e : Ending) (w' : World) : Prop :=
  ∃ v, e = .returned v ∧ w'.ownsRow w.heap.size 5 1 v bs.length (nums .u8 bs) ∧ Below w.heap.size w w'
section
variable {ops : Array Oper} {rest : List Oper} {o : Oper} {a : Act} {Q : Exit → Act → World → Prop}
/-- append(v, y), bytes. -/
theorem apb {w0 W : World} (hgd : o.guard = none) (s x : Operand)
    (ho : o.op = .call { callee := .builtin .append, args := #[s, x], argTypes := #[33, 33] })
    (v : Value) (bs : List Int) (y : Int) (hs : a.eval s = v) (hx : a.eval x = .slice (some ⟨W.heap.size, 0, none⟩) 1 1)
    (HO : W.ownsRow w0.heap.size 5 1 v bs.length (nums .u8 bs)) (HB : Below w0.heap.size w0 W) (hl : bs.length < 140737488355328)
    (h : ∀ v1 w1, w1.ownsRow w0.heap.size 5 1 v1 (bs ++ [y]).length (nums .u8 (bs ++ [y])) → Below w0.heap.size w0 w1 → wpList Try.prog ops Q rest (a.put o.dst v1) w1) :
    wpList Try.prog ops Q (o :: rest) a (W.alloc (.cells #[.int .u8 y] 5)) :=
  ap1 w0.heap.size hgd s x 33 5 _ 1 ho Try.underlying33 info_u8 rfl (by decide) v _ _ _ hs hx rfl HO HB HB.size (by omega) fun v1 w1 h1 h2 _ _ => h v1 w1 (own_nums_snoc h1 rfl rfl) h2
/-- append(v, ys...), bytes. -/
theorem apbs {w0 W : World} (hgd : o.guard = none) (s x : Operand)
    (ho : o.op = .call { callee := .builtin .append, args := #[s, x], argTypes := #[33, 33] })
    (v : Value) (bs : List Int) (A : Option Addr) (m c : Nat) (ys : List Int) (hs : a.eval s = v) (hx : a.eval x = .slice A m c) (hr : Rds W 1 A m c (nums .u8 ys))
    (HO : W.ownsRow w0.heap.size 5 1 v bs.length (nums .u8 bs)) (HB : Below w0.heap.size w0 W) (hl : bs.length + m ≤ 140737488355328)
    (h : ∀ v1 w1, w1.ownsRow w0.heap.size 5 1 v1 (bs ++ ys).length (nums .u8 (bs ++ ys)) → Below w0.heap.size w0 w1 → wpList Try.prog ops Q rest (a.put o.dst v1) w1) :
    wpList Try.prog ops Q (o :: rest) a W :=
  apn w0.heap.size hgd s x 33 5 _ 1 1 ho Try.underlying33 info_u8 rfl (by decide) (by decide) v _ _ A m c _ hs hx hr (nums_one _ _) HO HB HB.size (by omega)
    fun v1 w1 h1 h2 _ _ => h v1 w1 (own_nums_app h1 rfl rfl (by have := hr.len; rw [nums_length] at this; omega)) h2
theorem lit_own {w W : World} (h : Below w.heap.size w W) (e : TypeId) : (W.alloc (.cells #[] e)).ownsRow w.heap.size e 1 (.slice (some ⟨W.heap.size, 0, none⟩) 0 0) 0 [] := World.ownsRow_made W #[] 0 h.size (Nat.zero_le _) (by simp)
end
theorem rds_len {w : World} {A : Option Addr} {n c : Nat} {k : IntKind} {bs : List Int} (h : Rds w 1 A n c (nums k bs)) : bs.length = n := by
  have := h.len; rw [nums_length] at this; omega

/-! ### slices.Clone -/
set_option maxHeartbeats 400000 in
theorem bclone_nil (n c : Nat) (w : World) :
    Calls Try.prog 48 #[.slice none n c] w fun e w' => e = .returned (.slice none 0 0) ∧ w = w' := by
  have q22 : ∀ (w : World) (a : Option Addr) (n c n' c' : Nat), (binOp .eql 33 (.slice a n c) (.slice none n' c')).run Try.prog w = .ok (.bool a.isNone) w := fun w a n c n' c' => Lib.run_eql_slice_nil w _ _ a n c n' c' Try.underlying33
  go_enter Try.func48, Try.ntmps48
  go_wp2
  go_ret
  exact ⟨rfl, rfl⟩
set_option maxHeartbeats 400000 in
theorem bclone_some (ad : Addr) (n c : Nat) (bs : List Int) (w : World) (hr : Rds w 1 (some ad) n c (nums .u8 bs)) (hb : n ≤ 140737488355328) :
    Calls Try.prog 48 #[.slice (some ad) n c] w (Puts w bs) := by
  have q22 : ∀ (w : World) (a : Option Addr) (n c n' c' : Nat), (binOp .eql 33 (.slice a n c) (.slice none n' c')).run Try.prog w = .ok (.bool a.isNone) w := fun w a n c n' c' => Lib.run_eql_slice_nil w _ _ a n c n' c' Try.underlying33
  go_enter Try.func48, Try.ntmps48
  go_wp2_with (at_builtin; refine apbs (w0 := w) (by rfl) _ _ (by rfl) _ [] (some ad) n c bs (by rfl) (by rfl) ?h1 ?h2 ?h3 ?h4 ?_; rotate_right; intro v1 w1 hown1 hbel1)
  case h1 => exact hr.below (below_al (Below.refl _ _) _)
  case h2 => exact lit_own (Below.refl _ _) _
  case h3 => exact below_al (Below.refl _ _) _
  case h4 => simpa using hb
  go_ret
  exact ⟨v1, rfl, hown1, hbel1⟩
theorem bclone (A : Option Addr) (n c : Nat) (bs : List Int) (w : World) (hr : Rds w 1 A n c (nums .u8 bs)) (hb : n ≤ 140737488355328) :
    Calls Try.prog 48 #[.slice A n c] w (Puts w bs) := by
  cases A with
  | none =>
    refine (bclone_nil n c w).mono ?_
    rintro e w' ⟨rfl, rfl⟩
    obtain ⟨rfl, rfl, h0⟩ := hr.nil_n
    have hbs : bs = [] := by simpa [nums] using h0
    subst hbs
    exact ⟨_, rfl, World.ownsRow_nil _ _ _ _, Below.refl _ _⟩
  | some ad => exact bclone_some ad n c bs w hr hb

/-! ### Num -/
set_option maxRecDepth 100000 in
set_option maxHeartbeats 400000 in
theorem cnum (A : Option Addr) (n c : Nat) (bs : List Int) (x : Nat) (hx : x < 18446744073709551616) (w : World) (hr : Rds w 1 A n c (nums .u8 bs)) (hb : n ≤ 140737488000000) :
    Calls Try.prog 44 #[.slice A n c, .int .u64 x] w (Puts w (bs ++ enc x)) := by
  have HX := Lib.hid hx
  have HN := Lib.hid (rds_len hr)
  have hel := enc_length x
  clear hx
  go_enter Try.func44, Try.ntmps44
  go_wp2_with (go_at_call 48; refine (bclone _ _ _ _ _ hr (by omega)).mono ?_; rintro e w1 ⟨v, rfl, hown, hbel⟩)
  go_loopw [5, 1] (fun v i wr => ∃ (y : Nat) (ys : List Int), i = .int .u64 y ∧ y ≤ x ∧ wr.ownsRow w.heap.size 5 1 v (bs ++ ys).length (nums .u8 (bs ++ ys)) ∧ Below w.heap.size w wr ∧ Hid (ys ++ enc y = enc x)) (fun _ i _ => (intOf i).toNat)
  case atStart => exact ⟨x, [], rfl, Nat.le_refl _, by simpa using hown, hbel, rfl⟩
  case round =>
    obtain ⟨y, ys, rfl, hyx, hownr, hbr, HE⟩ := hrel
    have hys : ys.length < (enc x).length := by rw [← HE.out, List.length_append]; have := enc_pos y; omega
    have hlen : (bs ++ ys).length < 140737488355328 := by rw [List.length_append, HN.out]; omega
    go_wp2_with (at_builtin; refine apb (w0 := w) (by rfl) _ _ (by rfl) _ _ _ (by rfl) (by rfl) hownr hbr hlen ?_; intro v1 w1 hown1 hbel1)
    · have hy : ¬ y < 128 := by have : (128 : Int) ≤ y := by assumption
                                omega
      refine ⟨⟨y / 128, ys ++ [((y % 128 + 128 : Nat) : Int)], by go_num, by omega, by rw [or128, List.append_assoc] at hown1; exact hown1, hbel1, ?_⟩, by simp [intOf]; omega⟩
      show _ = _
      rw [← HE.out, enc_ge y hy (by have := HX.out; omega)]
      simp
    · have hy : y < 128 := by have : (y : Int) < 128 := by assumption
                              omega
      go_ret
      refine ⟨v1, rfl, ?_, hbel1⟩
      rw [← HE.out, enc_lt y hy, ← List.append_assoc]
      exact hown1
/-- A new row of bytes, opened: its length is a letter. -/
theorem Puts.open_ {w w' : World} {bs : List Int} {e : Ending} (h : Puts w bs e w') :
    ∃ A n c, e = .returned (.slice A n c) ∧ (convert 33 9 (.slice A n c)).run Try.prog w' = .ok (.string (strOfNums bs)) w' ∧ Rds w' 1 A n c (nums .u8 bs) ∧ Below w.heap.size w w' ∧ w'.ownsRow w.heap.size 5 1 (.slice A n c) bs.length (nums .u8 bs) := by
  obtain ⟨v, rfl, hown, hbel⟩ := h
  obtain ⟨A, c, rfl, hr⟩ := own_rds hown
  exact ⟨A, _, c, rfl, conv_str Try.underlying33 Try.underlying5 Try.underlying9 hr, hr, hbel, hown⟩
theorem rds_nil (w : World) (k : IntKind) : Rds w 1 none 0 0 (nums k []) := Rds.none_ w 1
end Go.Proofs.Ytdnddoiemaifjaa
