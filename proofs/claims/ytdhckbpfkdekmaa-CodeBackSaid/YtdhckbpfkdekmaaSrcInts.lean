/- Package code: what the step of Ints does. -/
import Derived.Test.YtdhckbpfkdekmaaSrcSteps
namespace Go.Proofs.Ytdhckbpfkdekmaa
open Go.RowKit
variable {B : Nat}
theorem info_int : (Try.prog.info? 3).map (fun i => (i.zero, i.size, i.bytes)) = some (some (.int .i64 0), 1, 8) := by kernel_rfl
section
variable {ops : Array Oper} {rest : List Oper} {o : Oper} {a : Act} {Q : Exit → Act → World → Prop}
/-- append(v, y), ints, v's block at base or above it. -/
theorem api {W : World} (base : Nat) (hgd : o.guard = none) (s x : Operand)
    (ho : o.op = .call { callee := .builtin .append, args := #[s, x], argTypes := #[24, 24] })
    (v : Value) (ys : List Int) (y : Int) (hs : a.eval s = v) (hx : a.eval x = .slice (some ⟨W.heap.size, 0, none⟩) 1 1)
    (HO : W.ownsRow base 3 1 v ys.length (nums .i64 ys)) (hbase : base ≤ W.heap.size) (hl : ys.length ≤ 1000000000)
    (h : ∀ v1 w1, w1.ownsRow base 3 1 v1 (ys ++ [y]).length (nums .i64 (ys ++ [y])) → Below base W w1 → wpList Try.prog ops Q rest (a.put o.dst v1) w1) :
    wpList Try.prog ops Q (o :: rest) a (W.alloc (.cells #[.int .i64 y] 3)) :=
  ap1 (w0 := W) base hgd s x 24 3 _ 8 ho Try.underlying24 info_int rfl (by decide) v _ _ _ hs hx rfl HO (Below.refl _ _) hbase (by omega) fun v1 w1 h1 h2 _ _ => h v1 w1 (own_nums_snoc h1 rfl rfl) h2
end
theorem Chg.of_belowB {base : Nat} {w w1 : World} (h : Below base w w1) : Chg (fun k => base ≤ k) w w1 := ⟨h.os, h.tape, h.output, h.size, fun i _ hn => h.block i (by omega)⟩
theorem Chg.thenB {S : Nat → Prop} {w w1 w2 : World} (h : Chg S w w1) (k : Below w.heap.size w1 w2) : Chg S w w2 :=
  ⟨k.os.trans h.os, k.tape.trans h.tape, k.output.trans h.output, Nat.le_trans h.size k.size, fun i hi hs => (k.block i hi).trans (h.block i hi hs)⟩
theorem Src.keep {S : Nat → Prop} {w w1 : World} {b : Nat} {bs : List Int} {er : Int} (h : Src B w b bs er) (hc : Chg S w w1) (hb : ¬ S b) (hS : ∀ k, k < B → ¬ S k) : Src B w1 b bs er := by
  obtain ⟨A, n, c, h1, h2, h3⟩ := h.row
  exact ⟨h.made.keep hc hb, ⟨A, n, c, h1.keep hc hb, hc.rds h2 (fun ad e => hS _ (h3 ad e).2), h3⟩, h.err.keep hc hb⟩
/-- What the step of Ints leaves. -/
def GotL (B : Nat) (w : World) (b : Nat) (er : Int) (r : Except Int (List Int × List Int)) (e : Ending) (w' : World) : Prop :=
  match r with
  | .error x => e = thrown x ∧ Chg (fun k => k = b) w w' ∧ ∃ bs, Src B w' b bs er
  | .ok (l, rest) => ∃ A n c, e = .returned (.slice A n c) ∧ Rds w' 1 A n c (nums .i64 l) ∧ (∀ ad, A = some ad → w.heap.size ≤ ad.block) ∧ Chg (fun k => k = b) w w' ∧ Src B w' b rest er
theorem GotL.error_ {w w' : World} {b : Nat} {er x : Int} {r : Except Int (List Int × List Int)} (hr : r = .error x) {bs : List Int} (hc : Chg (fun k => k = b) w w') (hs : Src B w' b bs er) : GotL B w b er r (thrown x) w' := by
  subst hr; exact ⟨rfl, hc, bs, hs⟩
theorem own_addr {w : World} {base : Nat} {e : TypeId} {size n m c : Nat} {A : Option Addr} {xs : List Value} (h : w.ownsRow base e size (.slice A m c) n xs) : ∀ ad, A = some ad → base ≤ ad.block := by
  rintro ad rfl
  rcases h.2 with ⟨h0, _⟩ | ⟨g, cap, cur, hv, hg, _⟩
  · cases h0
  · cases hv; exact hg
set_option maxRecDepth 100000 in
set_option maxHeartbeats 8000000 in
theorem ints1 (sb cb lb mb b : Nat) (er : Int) (bs : List Int) (count least most : Int) (w : World) (h : Src B w b bs er) (hB : B ≤ w.heap.size) (hb : U8s bs) (hlen : bs.length ≤ 1000000)
    (hs : Box w sb 0 (.pointer (some ⟨b, 0, none⟩))) (hc : Box w cb 0 (.int .i64 count)) (hl : Box w lb 0 (.int .i64 least)) (hm : Box w mb 0 (.int .i64 most)) (hI : I64 count) (d1 : sb ≠ b) (d3 : lb ≠ b) (d4 : mb ≠ b) :
    Calls Try.prog 53 #[.pointer (some ⟨sb, 0, none⟩), .pointer (some ⟨cb, 0, none⟩), .pointer (some ⟨lb, 0, none⟩), .pointer (some ⟨mb, 0, none⟩)] w (GotL B w b er (intsM bs count least most)) := by
  have HW := Lib.hid (count_walk (B := B) b er bs count w h hb hI)
  have hbw := h.made.lt
  have h1 := hs.cell
  have h2 := hc.cell
  have hw0 := well_count hb count
  cases hn : countM bs count with
  | error e0 =>
    have HX : Hid (intsM bs count least most = .error e0) := by show _ = _; unfold intsM; rw [hn]; rfl
    rw [hn] at HW
    clear hn
    go_enter Try.func53, Try.ntmps53
    go_wp2_with (go_at_call 48; refine HW.out.mono ?_; rintro e w2 ⟨he2, hc2, bs2, hs2⟩; unfold thrown at he2; subst he2)
    exact ⟨rfl, GotL.error_ HX.out hc2 hs2⟩
  | ok q =>
    obtain ⟨N, rest⟩ := q
    rw [hn] at HW hw0
    have HU : Hid (U8s rest ∧ rest.length ≤ bs.length) := hw0.2
    have hNI : (N : Int) < 9223372036854775808 := by have := hw0.1; unfold I64 at hI; omega
    have HX : Hid (intsM bs count least most = intsF least most N [] rest) := by show _ = _; unfold intsM; rw [hn]; rfl
    clear hn hw0 hI
    go_enter Try.func53, Try.ntmps53
    go_wp2_with (go_at_call 48; refine HW.out.mono ?_; rintro e w2 ⟨rfl, hc2, hs2⟩)
    go_loopw [5, 6] (fun v i wr => ∃ (k : Nat) (acc bs' : List Int), k ≤ N ∧ i = .int .i64 k ∧ wr.ownsRow w.heap.size 3 1 v acc.length (nums .i64 acc) ∧ Chg (fun k => k = b) w wr ∧ Src B wr b bs' er ∧ Hid (intsF least most k acc bs' = intsF least most N [] rest) ∧ Hid (U8s bs') ∧ Hid (acc.length + bs'.length ≤ bs.length)) (fun _ i _ => (intOf i).toNat)
    case atStart => exact ⟨N, [], rest, Nat.le_refl _, rfl, ⟨rfl, .inl ⟨rfl, rfl⟩⟩, hc2, hs2, rfl, HU.out.1, by show _ ≤ _; have := HU.out.2; simpa using this⟩
    case round =>
      obtain ⟨k, acc, bs', hk, rfl, hown, hcr, hsr, HE, HB, HL⟩ := hrel
      have k1 := (hs.keep hcr d1).cell
      have k2 := (hl.keep hcr d3).cell
      have k3 := (hm.keep hcr d4).cell
      by_cases hk0 : k = 0
      · subst hk0
        have HX2 : Hid (intsM bs count least most = .ok (acc, bs')) := by show _ = _; rw [HX.out, ← HE.out]; rfl
        obtain ⟨A1, c1, rfl, hrv⟩ := own_rds hown
        have hba := own_addr hown
        clear hown
        go_wp2
        go_ret
        rw [HX2.out]
        exact ⟨_, _, _, rfl, hrv, hba, hcr, hsr⟩
      · obtain ⟨j, rfl⟩ : ∃ j, k = j + 1 := ⟨k - 1, by omega⟩
        have HI := Lib.hid (within_walk (B := B) b er bs' least most wr hsr HB.out)
        have hkp : (0 : Int) < ((j + 1 : Nat) : Int) := by omega
        have HE2 : Hid (intsF least most N [] rest = thenE (withinM bs' least most) fun v r => intsF least most j (acc ++ [v]) r) := by show _ = _; rw [← HE.out]; rfl
        cases hq : withinM bs' least most with
        | error e0 =>
          have HX2 : Hid (intsM bs count least most = .error e0) := by show _ = _; rw [HX.out, HE2.out, hq]; rfl
          rw [hq] at HI
          clear hq hk0
          go_wp2_with (go_at_call 45; refine HI.out.mono ?_; rintro e w3 ⟨he3, hc3, bs3, hs3⟩; unfold thrown at he3; subst he3)
          exact ⟨rfl, GotL.error_ HX2.out (hcr.trans hc3) hs3⟩
        | ok q =>
          obtain ⟨x, r⟩ := q
          have HX2 : Hid (intsF least most j (acc ++ [x]) r = intsF least most N [] rest) := by show _ = _; rw [HE2.out, hq]; rfl
          have HR : Hid (U8s r ∧ r.length < bs'.length) := by
            unfold withinM at hq
            cases hz : numS bs' with
            | error e0 => rw [hz] at hq; cases hq
            | ok qq =>
              obtain ⟨v, r2⟩ := qq
              rw [hz] at hq
              simp only [thenE] at hq
              split at hq
              · cases hq; exact (numS_rest HB.out hz).2
              · cases hq
          rw [hq] at HI
          clear hq hk0
          go_wp2_with (first
            | (go_at_call 45; refine HI.out.mono ?_; rintro e w3 ⟨rfl, hc3, hs3⟩; have hown3 := hc3.own hown (fun g hg e => by have := own_base hown g hg; omega))
            | (at_builtin; refine api w.heap.size (by rfl) _ _ (by rfl) _ _ _ (by rfl) (by rfl) hown3 (Nat.le_trans hcr.size hc3.size) (by have := HL.out; omega) ?_; intro v1 w4 hown4 hb4))
          go_roundw
          case rel =>
            refine ⟨j, acc ++ [x], r, by omega, by go_num, hown4, (hcr.trans hc3).thenB hb4, hs3.keep (.of_belowB hb4) (by omega) (fun k hk => by omega), HX2.out, HR.out.1, ?_⟩
            show _ ≤ _
            have h1 := HL.out
            have h2 := HR.out.2
            rw [List.length_append, List.length_singleton]
            omega
          case measure => simp [intOf]
end Go.Proofs.Ytdhckbpfkdekmaa
