/- The law ReadyActs, walked. -/
import Derived.Test.YtabdipfpfbdghaaGreatZReaAct4
import Derived.Test.YtabdipfpfbdghaaGreatZReaAlike
import Derived.Test.YtabdipfpfbdghaaGreatZReaTurnK
import Derived.Deep.Slices
import Derived.Test.YtabdipfpfbdghaaGreatZOpen
namespace Go.Proofs.YtabdipfpfbdghaaGreat
open Go.RowKit
variable {base b g c hb mb mg cm n k : Nat} {w : World} {q : QV} {TT : Nat → Prop}
structure Ac3 where
  kd : Int
  id : Int
  tk : Int
def acC3 (m : Ac3) : List Value := [.int .i64 m.kd, .int .i64 m.id, .int .i64 m.tk]
def acs3 (l : List Ac3) : List Value := (l.map acC3).flatten
theorem acs3_len (l : List Ac3) : (acs3 l).length = l.length * 3 := by
  unfold acs3
  induction l with
  | nil => rfl
  | cons r l ih =>
    rw [List.map_cons, List.flatten_cons, List.length_append, ih]
    simp [acC3]
    omega
theorem acs3_get : ∀ (l : List Ac3) (i : Nat) (m : Ac3), l[i]? = some m → ∀ j u, (acC3 m)[j]? = some u → (acs3 l)[i * 3 + j]? = some u
  | [], i, m, h, _, _, _ => by simp at h
  | x :: l, 0, m, h, j, u, hj => by
    simp at h
    subst h
    have hl : j < (acC3 x).length := (List.getElem?_eq_some_iff.1 hj).1
    show ((acC3 x) ++ acs3 l)[0 * 3 + j]? = some u
    rw [Nat.zero_mul, Nat.zero_add, List.getElem?_append_left hl, hj]
  | x :: l, i + 1, m, h, j, u, hj => by
    have h2 := acs3_get l i m (by simpa using h) j u hj
    show ((acC3 x) ++ acs3 l)[(i + 1) * 3 + j]? = some u
    rw [List.getElem?_append_right (by simp [acC3]; omega), show (i + 1) * 3 + j - (acC3 x).length = i * 3 + j by simp [acC3]; omega]
    exact h2
theorem ac3_read {w : World} {ad : Addr} {n c : Nat} {l : List Ac3} (h : Rds w 3 (some ad) n c (acs3 l)) (k : Nat) (m : Ac3) (hk : l[k]? = some m) :
    w.cell? (ad.add (k * 3)) = some (.int .i64 m.kd) ∧ w.cell? ⟨(ad.add (k * 3)).block, (ad.add (k * 3)).off + 1, none⟩ = some (.int .i64 m.id) ∧ w.cell? ⟨(ad.add (k * 3)).block, (ad.add (k * 3)).off + 2, none⟩ = some (.int .i64 m.tk) := by
  have h1 : ∀ j u, (acC3 m)[j]? = some u → w.cell? ((ad.add (k * 3)).add j) = some u := by
    intro j u hj
    rw [Go.Deep.add_add]
    exact h.cell ad rfl _ _ (acs3_get l k m hk j u hj)
  exact ⟨h1 0 _ rfl, h1 1 _ rfl, h1 2 _ rfl⟩
/-- Two that are new. -/
theorem pz_new {w1 w2 : World} (Q : Qx NoT ⟨w, w.heap.size, NoT⟩ w1 b g c hb n q) (hb2 : Below w1.heap.size w1 w2) {now : Int} {rows : List RowQ} (M : Mq w2 w1.heap.size mb mg n cm now rows) (hmg : w1.heap.size ≤ mg) : ∃ T, Pz w.heap.size w2 b g c hb mb mg cm n q now rows T ∧ Below w.heap.size w w2 := by
  obtain ⟨⟨gk, gp, ck, cp, iv, h1, _⟩, k1, k2, k3, k4, k5, k6⟩ := Q
  have hlb := M.lb
  have Q0 : QZ w.heap.size w1 b g c hb n q (fun k => k = b ∨ k = g ∨ HS hb gk gp iv k) := ⟨gk, gp, ck, cp, iv, h1, fun _ => Iff.rfl⟩
  have Q1 : QZ w.heap.size w2 b g c hb n q (fun k => k = b ∨ k = g ∨ HS hb gk gp iv k) := ⟨gk, gp, ck, cp, iv, h1.below hb2, fun _ => Iff.rfl⟩
  refine ⟨_, ⟨⟨_, Q1, fun e => ?_, fun e => ?_, fun _ => Iff.rfl⟩, ⟨M.nb, M.rb, own_mono M.ro k4, M.ne, Nat.le_trans k4 M.lb⟩⟩, below_then ⟨k1, k2, k3, k4, fun k hk => k6 k hk (.inl hk)⟩ k4 hb2⟩
  · have := Q0.lt e
    omega
  · have := Q0.lt e
    omega
theorem Pz.size {now : Int} {rows : List RowQ} (P : Pz base w b g c hb mb mg cm n q now rows TT) : base ≤ w.heap.size := by
  have h1 := P.mq.lb
  have h2 := P.mq.nb.lt
  omega
theorem stq_below {w0 w' : World} {now : Int} {rows : List RowQ} {T' : Nat → Prop} (P : Pz base w b g c hb mb mg cm n q now rows TT) (h : Below base w0 w) (st : Stq w w' TT T') : Below base w0 w' :=
  st.1.toBelow h P.size (fun _ e => P.ge e)
theorem alikeP (P : Pz base w b g c hb mb mg cm n q q.now q.rows TT) (J : QJ n q k) (hk : k ≤ 1000) (h0 : 0 < n) (hn : n ≤ 4096) (z : Int) :
    Calls Tryz.prog 10 #[.pointer (some ⟨b, 0, none⟩), .pointer (some ⟨mb, 0, none⟩), .int .i64 z] w fun e w' => e = .returned (.bool true) ∧ Below w.heap.size w w' := by
  obtain ⟨K, Q, _⟩ := P.code
  exact alikeW Q P.mq J hk h0 hn z
set_option maxRecDepth 100000 in
set_option maxHeartbeats 4000000 in
theorem racts_lives (most : Int) (A : Option Addr) (n c : Nat) (w : World) (h : 200 < n ∨ most < 1 ∨ 100 < most) : Calls Tryz.prog 3 #[.int .i64 most, .slice A n c] w fun e w' => e = .returned (.bool true) ∧ Below w.heap.size w w' := by
  have HL := Lib.hid (fun W => lives18 W)
  by_cases h1 : 200 < n
  · have h2 : (200 : Int) < (n : Int) := by omega
    clear h
    go_enter Tryz.func3, Tryz.ntmps3
    go_wp2_with (go_at_call 6; (with_reducible refine (HL.out _).mono ?_); rintro e w' ⟨rfl, hb⟩)
    go_ret
    exact ⟨rfl, hb⟩
  · have h3 : ¬ (200 : Int) < (n : Int) := by omega
    by_cases h4 : most < 1 ∨ 4096 < most
    · have HD := Lib.hid (qnewNo most w h4)
      have HR := Lib.hid (mnewNo most w h4)
      clear h h4
      go_enter Tryz.func3, Tryz.ntmps3
      go_wp2_with (first
        | (go_at_call 6; (with_reducible refine (HL.out _).mono ?_); rintro e w' ⟨rfl, hb⟩)
        | (go_at_call 7; (with_reducible refine HD.out.mono ?_); rintro e w1 ⟨rfl, rfl⟩)
        | (go_at_call 8; (with_reducible refine HR.out.mono ?_); rintro e w1 ⟨rfl, rfl⟩))
      go_ret
      exact ⟨rfl, hb⟩
    · obtain ⟨m, rfl⟩ : ∃ m : Nat, most = (m : Int) := ⟨most.toNat, by omega⟩
      have h5 : (100 : Int) < (m : Int) := by omega
      have HD := Lib.hid (qnew m m rfl w (by omega) (by omega))
      have HR := Lib.hid (fun W => mnew m m rfl W (by omega) (by omega))
      clear h h4
      go_enter Tryz.func3, Tryz.ntmps3
      go_wp2_with (first
        | (go_at_call 6; (with_reducible refine (HL.out _).mono ?_); rintro e w' ⟨rfl, hb⟩)
        | (go_at_call 7; (with_reducible refine HD.out.mono ?_); rintro e w1 ⟨b, g, hb, rfl, hq⟩)
        | (go_at_call 8; (with_reducible refine (HR.out _).mono ?_); rintro e w2 ⟨mb, mg, rfl, hm, hmg, hb2⟩; obtain ⟨T, _, HB⟩ := pz_new hq hb2.out hm.out hmg.out; clear hq hm hmg hb2; have HBB := Lib.hid HB; clear HB))
      go_ret
      exact ⟨rfl, below_then HBB.out HBB.out.size hb⟩
set_option maxRecDepth 100000 in
set_option maxHeartbeats 8000000 in
theorem racts_walk (m : Nat) (A : Option Addr) (n c : Nat) (l : List Ac3) (w : World) (hr : Rds w 3 A n c (acs3 l)) (hn : n ≤ 200) (hm1 : 1 ≤ m) (hm2 : m ≤ 100) : Calls Tryz.prog 3 #[.int .i64 m, .slice A n c] w fun e w' => e = .returned (.bool true) ∧ Below w.heap.size w w' := by
  have HL := Lib.hid (fun W => lives18 W)
  have HN : Hid (l.length = n) := by show _ = _; have := hr.len; rw [acs3_len] at this; omega
  have HD := Lib.hid (qnew m m rfl w (by omega) (by omega))
  have HR := Lib.hid (fun W => mnew m m rfl W (by omega) (by omega))
  have h3 : ¬ (200 : Int) < (n : Int) := by omega
  have h4 : ¬ (100 : Int) < (m : Int) := by omega
  have HRD := Lib.hid hr
  clear hr
  go_enter Tryz.func3, Tryz.ntmps3
  go_wp2_with (first
    | (go_at_call 7; (with_reducible refine HD.out.mono ?_); rintro e w1 ⟨b, g, hb, rfl, hq⟩)
    | (go_at_call 8; (with_reducible refine (HR.out _).mono ?_); rintro e w2 ⟨mb, mg, rfl, hm, hmg, hb2⟩; obtain ⟨T0, hp, hB⟩ := pz_new hq hb2.out hm.out hmg.out; have HP0 := Lib.hid hp; have HB0 := Lib.hid hB; clear hq hm hmg hb2 hp hB))
  obtain ⟨base, hbase⟩ : ∃ x, x = w.heap.size := ⟨_, rfl⟩
  rw [← hbase] at HP0
  have HBS := Lib.hid hbase
  clear hbase HD HR
  go_loopw [31] (fun i wr => ∃ (k : Nat) (q : QV) (T : Nat → Prop), k ≤ n ∧ i = .int .i64 k ∧ Hid (Pz base wr b g m hb mb mg m m q q.now q.rows T) ∧ Hid (QJ m q k) ∧ Hid (Below base w wr)) (fun i _ => n - (intOf i).toNat)
  case atStart => exact ⟨0, newR m, T0, Nat.zero_le _, rfl, HP0, Lib.hid (QJ.new m), Lib.hid (by rw [HBS.out]; exact HB0.out)⟩
  case round =>
    obtain ⟨k, q, T, hk, rfl, HP, HJ, HB⟩ := hrel
    clear HP0 HB0
    by_cases hlt : k < n
    · have hkx : k < l.length := by rw [HN.out]; exact hlt
      obtain ⟨ad, rfl⟩ := HRD.out.some_ (by omega)
      obtain ⟨h0, h1, h2⟩ := ac3_read (HRD.out.below (by rw [← HBS.out]; exact HB.out)) k l[k] (List.getElem?_eq_getElem hkx)
      generalize l[k] = y at h0 h1 h2
      obtain ⟨kd, id, tk⟩ := y
      simp only at h0 h1 h2
      have hlt' : (k : Int) < (n : Int) := by omega
      have HA := Lib.hid (fun W (P2 : Pz base W b g m hb mb mg m m q q.now q.rows T) => actK P2 HJ.out (by omega) (by omega) (by omega) kd id tk)
      have HAL := Lib.hid (fun W T2 q2 (P2 : Pz base W b g m hb mb mg m m q2 q2.now q2.rows T2) (J2 : QJ m q2 (k + 1)) => alikeP P2 J2 (by omega) (by omega) (by omega) id)
      unfold ac18 AQ at HA
      obtain ⟨W5, hW5⟩ : ∃ W5, W5 = wr.alloc (.cells #[.int .i64 kd, .int .i64 id, .int .i64 tk] (29 : Nat)) := ⟨_, rfl⟩
      have hal : Below wr.heap.size wr W5 := by rw [hW5]; exact below_al (Below.refl _ _) _
      have x0 : W5.cell? ⟨wr.heap.size, 0, none⟩ = some (.int .i64 kd) := by rw [hW5]; go_simp
      have x1 : W5.cell? ⟨wr.heap.size, 1, none⟩ = some (.int .i64 id) := by rw [hW5]; go_simp
      have x2 : W5.cell? ⟨wr.heap.size, 2, none⟩ = some (.int .i64 tk) := by rw [hW5]; go_simp
      have HP5 := Lib.hid (HP.out.below hal)
      have HB5 := Lib.hid (below_then HB.out HP.out.size hal)
      have hTN : ¬ T wr.heap.size := fun e => by have := HP.out.lt e; omega
      have HX1 := Lib.hid x1
      have HTN := Lib.hid hTN
      obtain ⟨N, hN⟩ : ∃ N, N = wr.heap.size := ⟨_, rfl⟩
      rw [← hN] at x0 x1 x2 HX1 HTN
      have HW5 := Lib.hid hW5
      have HNN := Lib.hid hN
      clear hal hTN hW5 hN
      go_wp2_with (go_at_call 9; fail)
      rw [← HW5.out, ← HNN.out]
      clear HW5 HNN x0 x1 x2 h0 h1 h2
      (with_reducible refine (HA.out _ HP5.out).mono ?_)
      rintro e w1 ⟨rfl, q', T', hp', hst, hj⟩
      have z1 := hst.1.cell HX1.out HTN.out
      have HP6 := Lib.hid hp'
      have HJ6 := Lib.hid hj
      have HB6 := Lib.hid (stq_below HP5.out HB5.out hst)
      clear hp' hst hj HA HP5 HB5 HX1
      go_wp2_with (go_at_call 10; (with_reducible refine (HAL.out _ _ _ HP6.out HJ6.out).mono ?_); rintro e w2 ⟨rfl, hb2⟩; have HP7 := Lib.hid (HP6.out.below hb2); have HB7 := Lib.hid (below_then HB6.out HP6.out.size hb2); clear hb2)
      go_roundw
      case rel => exact ⟨k + 1, q', T', by omega, by go_num, HP7, HJ6, HB7⟩
      case measure => simp only [intOf]; omega
    · obtain rfl : n = k := by omega
      have hlt' : ¬ (n : Int) < (n : Int) := by omega
      go_wp2_with (go_at_call 6; (with_reducible refine (HL.out _).mono ?_); rintro e w' ⟨rfl, hb⟩)
      go_ret
      have hB := HB.out
      rw [HBS.out] at hB
      exact ⟨rfl, below_then hB hB.size hb⟩
end Go.Proofs.YtabdipfpfbdghaaGreat

/- Acts, opened. -/
namespace Go.Proofs.YtabdipfpfbdghaaGreat
open Go.RowKit
theorem leaf_acs3 {P : Program} {w : World} {d : Nat} {e : TypeId} {v : Value} (hc : P.cellsOf e = 3) (hl : leaves P 6 e = some [.int .i64, .int .i64, .int .i64]) (h : LeafOk P w (d + 1) (.slice e) v) :
    ∃ A n c l, v = .slice A n c ∧ Rds w 3 A n c (acs3 l) := by
  have one : ∀ v, LeafOk P w d (.int .i64) v → ∃ n, v = .int .i64 n := by
    intro v h
    have h4 : ∃ n, v = .int .i64 n ∧ (Lit.int .i64 n).wf = true := by cases d <;> exact h
    obtain ⟨n, rfl, _⟩ := h4
    exact ⟨n, rfl⟩
  obtain ⟨A, n, c, rows, rfl, hr⟩ := h
  obtain ⟨xs, rfl, _⟩ := rows_map (f := acC3) (good := fun _ => True) (rows := rows) (by
    intro r hr'
    have h1 := (hr.el r hr').2 _ hl
    obtain ⟨v1, vs, rfl, k1, h1⟩ := allOk_cons h1
    obtain ⟨v2, vs, rfl, k2, h1⟩ := allOk_cons h1
    obtain ⟨v3, vs, rfl, k3, h1⟩ := allOk_cons h1
    have := allOk_nil h1
    subst this
    obtain ⟨n1, rfl⟩ := one _ k1
    obtain ⟨n2, rfl⟩ := one _ k2
    obtain ⟨n3, rfl⟩ := one _ k3
    exact ⟨⟨n1, n2, n3⟩, rfl, trivial⟩)
  have := hr.rds
  rw [hc] at this
  exact ⟨A, n, c, xs, rfl, this⟩
theorem actLeaves : leaves Tryz.prog 6 22 = some [.slice 29] := by kernel_rfl
theorem actLeaves2 : leaves Tryz.prog 6 29 = some [.int .i64, .int .i64, .int .i64] := by kernel_rfl
end Go.Proofs.YtabdipfpfbdghaaGreat
