/- What bytes tell: ints, texts, flags, lists: plain. -/
import Derived.Test.YtdnddoiemaifjaaNumOk
namespace Go.Proofs.Ytdnddoiemaifjaa
open Go.RowKit
/-- A number as an int. -/
def zagV (n : Nat) : Int := if n % 2 = 0 then ((n / 2 : Nat) : Int) else -((n / 2 : Nat) : Int) - 1
theorem xor_m1 (x : Nat) (hx : x < 9223372036854775808) : bits .xor .i64 (x : Int) (-1) = -(x : Int) - 1 := by
  show IntKind.i64.wrap ((BitVec.ofInt 64 (x : Int) ^^^ BitVec.ofInt 64 (-1)).toNat : Int) = _
  have h1 : (BitVec.ofInt 64 (-1)).toNat = 18446744073709551615 := by decide
  have h2 : (BitVec.ofInt 64 (x : Int)).toNat = x := by
    rw [BitVec.ofInt_natCast, BitVec.toNat_ofNat]; exact Nat.mod_eq_of_lt (by omega)
  rw [BitVec.toNat_xor, h1, h2, xor_ones x (by omega), IntKind.wrap_i64]
  omega
theorem xor_0 (x : Nat) (hx : x < 9223372036854775808) : bits .xor .i64 (x : Int) 0 = x := by
  show IntKind.i64.wrap ((BitVec.ofInt 64 (x : Int) ^^^ BitVec.ofInt 64 0).toNat : Int) = _
  have h1 : (BitVec.ofInt 64 0).toNat = 0 := by decide
  have h2 : (BitVec.ofInt 64 (x : Int)).toNat = x := by
    rw [BitVec.ofInt_natCast, BitVec.toNat_ofNat]; exact Nat.mod_eq_of_lt (by omega)
  rw [BitVec.toNat_xor, h1, h2, Nat.xor_zero, IntKind.wrap_i64]
  omega
theorem and1_u64 (n : Nat) (h : n < 18446744073709551616) : bits .and .u64 (n : Int) 1 = ((n % 2 : Nat) : Int) := by
  have := u64_and_nat n 1 h (by decide)
  rw [show n &&& 1 = n % 2 from Nat.and_one_is_mod n] at this
  exact this
theorem zagV_i64 (n : Nat) (h : n < 18446744073709551616) : I64 (zagV n) := by
  unfold zagV I64
  split <;> omega
theorem zag_zig (x : Int) (hx : I64 x) : zagV (zigN x) = x := by
  unfold zagV zigN I64 at *
  split <;> split <;> omega
section
variable {T U : Type}
/-- What is told: of a number that was read. -/
def thenE (r : Except Int (T × List Int)) (f : T → List Int → Except Int (U × List Int)) : Except Int (U × List Int) := match r with
  | .error e => .error e
  | .ok (v, rest) => f v rest
end
def withinM (bs : List Int) (least most : Int) : Except Int (Int × List Int) := thenE (numS bs) fun v rest => if least ≤ zagV v ∧ zagV v ≤ most then .ok (zagV v, rest) else .error 8
def countM (bs : List Int) (most : Int) : Except Int (Nat × List Int) := thenE (numS bs) fun v rest => if (v : Int) ≤ max most 0 then .ok (v, rest) else .error 8
def textM (bs : List Int) (most : Int) : Except Int (List Int × List Int) := thenE (countM bs most) fun v rest => if v ≤ rest.length then .ok (rest.take v, rest.drop v) else .error 9
def octM : List Int → Except Int (Int × List Int)
  | [] => .error 9
  | x :: r => .ok (x, r)
def flagM (bs : List Int) : Except Int (Bool × List Int) := thenE (octM bs) fun x rest => if x ≤ 1 then .ok (decide (x = 1), rest) else .error 10
def intsF (least most : Int) : Nat → List Int → List Int → Except Int (List Int × List Int)
  | 0, acc, bs => .ok (acc, bs)
  | n + 1, acc, bs => thenE (withinM bs least most) fun v rest => intsF least most n (acc ++ [v]) rest
def intsM (bs : List Int) (count least most : Int) : Except Int (List Int × List Int) := thenE (countM bs count) fun n rest => intsF least most n [] rest
/-- What holds of all bytes holds of what is left. -/
def U8s (bs : List Int) : Prop := ∀ x ∈ bs, 0 ≤ x ∧ x < 256
theorem numS_rest {bs rest : List Int} {v : Nat} (hb : U8s bs) (h : numS bs = .ok (v, rest)) : v < 18446744073709551616 ∧ U8s rest ∧ rest.length < bs.length := by
  obtain ⟨h1, h2⟩ := numS_ok hb h
  refine ⟨h1, fun x hx => hb x (by rw [h2]; exact List.mem_append_right _ hx), ?_⟩
  rw [h2, List.length_append]
  have := enc_pos v
  omega
theorem numS_err {bs : List Int} (hb : U8s bs) {x : Int} (h : numS bs = .error x) : x ≠ 0 := by
  have := numF_err 10 0 0 bs x (by omega) (by omega) (fun y hy => (hb y hy).1) h
  omega
/-- Told well: an error is one, and what is left is bytes. -/
def Well {T : Type} (bs : List Int) (r : Except Int (T × List Int)) (P : T → Prop) : Prop := match r with
  | .error x => x ≠ 0
  | .ok (v, rest) => P v ∧ U8s rest ∧ rest.length ≤ bs.length
theorem well_num {bs : List Int} (hb : U8s bs) : Well bs (numS bs) fun v => v < 18446744073709551616 := by
  unfold Well
  cases h : numS bs with
  | error x => exact numS_err hb h
  | ok q => obtain ⟨v, rest⟩ := q; have := numS_rest hb h; exact ⟨this.1, this.2.1, Nat.le_of_lt this.2.2⟩
theorem well_then {T U : Type} {bs : List Int} {r : Except Int (T × List Int)} {P : T → Prop} {Q : U → Prop} {f : T → List Int → Except Int (U × List Int)} (h : Well bs r P)
    (hf : ∀ v rest, P v → U8s rest → rest.length ≤ bs.length → Well bs (f v rest) Q) : Well bs (thenE r f) Q := by
  cases r with
  | error x => exact h
  | ok q => obtain ⟨v, rest⟩ := q; exact hf v rest h.1 h.2.1 h.2.2
theorem well_mono {T : Type} {bs bs' : List Int} {r : Except Int (T × List Int)} {P : T → Prop} (h : Well bs r P) (hl : bs.length ≤ bs'.length) : Well bs' r P := by
  cases r with
  | error x => exact h
  | ok q => obtain ⟨v, rest⟩ := q; exact ⟨h.1, h.2.1, Nat.le_trans h.2.2 hl⟩
theorem well_within {bs : List Int} (hb : U8s bs) (least most : Int) : Well bs (withinM bs least most) I64 := by
  refine well_then (well_num hb) fun v rest hv hr hl => ?_
  split
  · exact ⟨zagV_i64 v hv, hr, hl⟩
  · show (8 : Int) ≠ 0; decide
theorem well_count {bs : List Int} (hb : U8s bs) (most : Int) : Well bs (countM bs most) fun v => (v : Int) ≤ max most 0 := by
  refine well_then (well_num hb) fun v rest hv hr hl => ?_
  split
  · rename_i h; exact ⟨h, hr, hl⟩
  · show (8 : Int) ≠ 0; decide
theorem well_oct {bs : List Int} (hb : U8s bs) : Well bs (octM bs) fun x => 0 ≤ x ∧ x < 256 := by
  cases bs with
  | nil => show (9 : Int) ≠ 0; decide
  | cons x r => exact ⟨hb x (List.mem_cons_self ..), fun y hy => hb y (List.mem_cons_of_mem _ hy), by simp⟩
theorem well_text {bs : List Int} (hb : U8s bs) (most : Int) : Well bs (textM bs most) fun t => U8s t ∧ t.length ≤ bs.length := by
  refine well_then (well_count hb most) fun v rest hv hr hl => ?_
  split
  · exact ⟨⟨fun x hx => hr x (List.mem_of_mem_take hx), by rw [List.length_take]; omega⟩, fun x hx => hr x (List.mem_of_mem_drop hx), by rw [List.length_drop]; omega⟩
  · show (9 : Int) ≠ 0; decide
theorem well_flag {bs : List Int} (hb : U8s bs) : Well bs (flagM bs) fun _ => True := by
  refine well_then (well_oct hb) fun v rest hv hr hl => ?_
  split
  · exact ⟨trivial, hr, hl⟩
  · show (10 : Int) ≠ 0; decide
theorem well_intsF (least most : Int) (all : List Int) : ∀ (n : Nat) (acc bs : List Int), U8s bs → (∀ x ∈ acc, I64 x) → acc.length + bs.length ≤ all.length → Well all (intsF least most n acc bs) fun l => (∀ x ∈ l, I64 x) ∧ l.length ≤ all.length
  | 0, acc, bs, hb, ha, hl => ⟨⟨ha, by omega⟩, hb, by omega⟩
  | n + 1, acc, bs, hb, ha, hl => by
    unfold intsF withinM
    cases h : numS bs with
    | error x => exact numS_err hb h
    | ok q =>
      obtain ⟨v, rest⟩ := q
      obtain ⟨h1, h2, h3⟩ := numS_rest hb h
      simp only [thenE]
      by_cases hw : least ≤ zagV v ∧ zagV v ≤ most
      · rw [if_pos hw]
        refine well_intsF least most all n _ rest h2 (fun x hx => ?_) (by simp; omega)
        rcases List.mem_append.1 hx with hx | hx
        · exact ha x hx
        · rw [List.mem_singleton.1 hx]; exact zagV_i64 v h1
      · rw [if_neg hw]; show (8 : Int) ≠ 0; decide
theorem well_ints {bs : List Int} (hb : U8s bs) (count least most : Int) : Well bs (intsM bs count least most) fun l => (∀ x ∈ l, I64 x) ∧ l.length ≤ bs.length := by
  refine well_then (well_count hb count) fun v rest hv hr hl => ?_
  exact well_intsF least most bs v [] rest hr (fun x hx => by cases hx) (by simpa using hl)
/-- What a source tells, and what it is behind that. -/
def gotE {T : Type} (z : T) (f : List Int → Except Int (T × List Int)) (bs : List Int) (er : Int) : T × List Int × Int :=
  if er ≠ 0 then (z, bs, er) else match f bs with
  | .error x => (z, [], x)
  | .ok (v, rest) => (v, rest, 0)
theorem gotE_err {T : Type} {z : T} {f : List Int → Except Int (T × List Int)} {bs : List Int} {er : Int} (h : er ≠ 0) : gotE z f bs er = (z, bs, er) := if_pos h
theorem gotE_error {T : Type} {z : T} {f : List Int → Except Int (T × List Int)} {bs : List Int} {x : Int} (h : f bs = .error x) : gotE z f bs 0 = (z, [], x) := by
  unfold gotE; rw [if_neg (by decide), h]
theorem gotE_ok {T : Type} {z v : T} {f : List Int → Except Int (T × List Int)} {bs rest : List Int} (h : f bs = .ok (v, rest)) : gotE z f bs 0 = (v, rest, 0) := by
  unfold gotE; rw [if_neg (by decide), h]
/-- The first error, or that bytes are left. -/
def endE (bs : List Int) (er : Int) : Int := if er ≠ 0 then er else if 0 < bs.length then 10 else 0
end Go.Proofs.Ytdnddoiemaifjaa
