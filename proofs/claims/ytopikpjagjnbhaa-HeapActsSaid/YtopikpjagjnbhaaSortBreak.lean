/- The sort: patterns are broken. -/
import Derived.Test.YtopikpjagjnbhaaSortPivot
import Derived.Test.YtopikpjagjnbhaaSortLen
import Derived.Sort.LotD5
import Derived.Sort.Row
import Derived.Laws.Bits64
import Derived.Laws.Bits64b
namespace Go.Proofs.Ytopikpjagjnbhaa
open Go.RowKit
variable {w0 W : World} {hb gk kb n ck g c m : Nat} {ks : List Int} {d : Array Nat}
/-- A box of the sort's own, with a word in it. -/
structure Rn (w0 W : World) (hb gk kb n ck : Nat) (ks : List Int) (g c m : Nat) (d : Array Nat) (sb s : Nat) : Prop where
  sa : Sa w0 W hb gk kb n ck ks g c m d
  cell : W.cell? ⟨sb, 0, none⟩ = some (.int .u64 s)
  fr : W.frozen? ⟨sb, 0, none⟩ = false
  ne : sb ≠ g ∧ sb ≠ hb ∧ sb ≠ gk
  lo : w0.heap.size ≤ sb
theorem Rn.below {W' : World} {sb s : Nat} (C : Rn w0 W hb gk kb n ck ks g c m d sb s) (h : Below W.heap.size W W') : Rn w0 W' hb gk kb n ck ks g c m d sb s :=
  ⟨C.sa.below h, cell_below h C.cell, frozen_below h C.cell C.fr, C.ne, C.lo⟩
theorem Rn.put {sb s : Nat} (C : Rn w0 W hb gk kb n ck ks g c m d sb s) (t : Nat) : Rn w0 (W.setCell ⟨sb, 0, none⟩ (.int .u64 t)) hb gk kb n ck ks g c m d sb t := by
  have c1 : Chg (fun k => k = sb) W (W.setCell ⟨sb, 0, none⟩ (.int .u64 t)) := (Chg.refl _ _).setCell _ _ _ rfl
  refine ⟨⟨c1.own C.sa.ro (fun k hk e => ?_), C.sa.kw.keep c1 (fun e => C.ne.2.1 e.symm) (fun e => C.ne.2.2 e.symm), C.sa.ne, C.sa.lt, c1.toBelow C.sa.bl C.sa.bl.size (fun k e => by rw [e]; exact C.lo)⟩, ?_, ?_, C.ne, C.lo⟩
  · cases hk
    exact C.ne.1 e.symm
  · exact World.cell?_setCell_same _ _ _ C.cell
  · rw [World.frozen?_setCell]; exact C.fr
theorem Rn.new (S : Sa w0 W hb gk kb n ck ks g c m d) (s : Nat) : Rn w0 (W.alloc (.cells #[.int .u64 s] 101)) hb gk kb n ck ks g c m d W.heap.size s := by
  have hg : g < W.heap.size := (S.ro.lt g rfl).2
  have h1 : hb < W.heap.size := S.kw.kb.lt
  have h2 : gk < W.heap.size := (S.kw.ko.lt gk rfl).2
  refine ⟨S.below (below_al (Below.refl _ _) _), by simp, by simp, ⟨by omega, by omega, by omega⟩, S.bl.size⟩
theorem Rn.at' {sb s : Nat} (C : Rn w0 W hb gk kb n ck ks g c m d sb s) {i : Nat} (hi : i < m) : W.cell? ⟨g, i, none⟩ = some (.int .i64 (d[i]! : Nat)) ∧ W.frozen? ⟨g, i, none⟩ = false ∧ d[i]! < n := C.sa.at' hi
theorem Rn.two {sb s : Nat} (C : Rn w0 W hb gk kb n ck ks g c m d sb s) {i j : Nat} (hi : i < m) (hj : j < m) : ∃ u, (W.setCell ⟨g, i, none⟩ (.int .i64 (d[j]! : Nat))).cell? ⟨g, j, none⟩ = some u := C.sa.two hi hj
theorem Rn.swap {sb s : Nat} (C : Rn w0 W hb gk kb n ck ks g c m d sb s) {i j : Nat} (hi : i < m) (hj : j < m) : Rn w0 ((W.setCell ⟨g, i, none⟩ (.int .i64 (d[j]! : Nat))).setCell ⟨g, j, none⟩ (.int .i64 (d[i]! : Nat))).drew hb gk kb n ck ks g c m (Sort.swp d i j) sb s := by
  have n1 : ∀ i' : Nat, (⟨g, i', none⟩ : Addr).block ≠ sb := fun _ e => C.ne.1 e.symm
  refine ⟨C.sa.swap hi hj, ?_, ?_, C.ne, C.lo⟩
  · rw [World.cell?_drew, World.cell?_setCell_other, World.cell?_setCell_other]
    · exact C.cell
    all_goals (intro e; injection e with e1; exact C.ne.1 (by first | exact e1 | exact e1.symm))
  · simpa using C.fr
theorem two_sets (w : World) (b o : Nat) (v v' : Value) : (w.setCell ⟨b, o, none⟩ v).setCell ⟨b, o, none⟩ v' = w.setCell ⟨b, o, none⟩ v' := by
  rw [Sort.setCell_eq, Sort.setCell_eq, Sort.mapBlock_mapBlock, Sort.setCell_eq]
  congr 1
  funext c
  simp
set_option maxRecDepth 100000 in
set_option maxHeartbeats 8000000 in
/-- The next word. -/
theorem snext {rb X : Nat} (C : Rn w0 W hb gk kb n ck ks g c m d rb X) (hX : X < 18446744073709551616) :
    Calls Try.prog 81 #[.pointer (some ⟨rb, 0, none⟩)] W fun e W' => ∃ y : Nat, e = .returned (.int .u64 y) ∧ Hid (y < 18446744073709551616) ∧ Hid (Rn w0 W' hb gk kb n ck ks g c m d rb y) := by
  obtain ⟨A, hA⟩ : ∃ A : Nat, A = X ^^^ (X * 8192 % 18446744073709551616) := ⟨_, rfl⟩
  obtain ⟨B, hB⟩ : ∃ B : Nat, B = A ^^^ (A / 128) := ⟨_, rfl⟩
  obtain ⟨E, hE⟩ : ∃ E : Nat, E = B ^^^ (B * 131072 % 18446744073709551616) := ⟨_, rfl⟩
  have lA : A < 18446744073709551616 := by rw [hA]; exact Nat.xor_lt_two_pow (n := 64) (by omega) (by omega)
  have lB : B < 18446744073709551616 := by rw [hB]; exact Nat.xor_lt_two_pow (n := 64) (by omega) (by omega)
  have lE : E < 18446744073709551616 := by rw [hE]; exact Nat.xor_lt_two_pow (n := 64) (by omega) (by omega)
  have e1 : bits .xor .u64 (X : Int) (IntKind.u64.wrap ((X : Int) * 8192)) = (A : Int) := by
    rw [IntKind.wrap_u64, show ((X : Int) * 8192 % 18446744073709551616) = ((X * 8192 % 18446744073709551616 : Nat) : Int) by omega, bits_xor_u64_nat _ _ hX (by omega), hA]
  have e2 : bits .xor .u64 (A : Int) ((A : Int) / 128) = (B : Int) := by
    rw [show ((A : Int) / 128) = ((A / 128 : Nat) : Int) by omega, bits_xor_u64_nat _ _ lA (by omega), hB]
  have e3 : bits .xor .u64 (B : Int) (IntKind.u64.wrap ((B : Int) * 131072)) = (E : Int) := by
    rw [IntKind.wrap_u64, show ((B : Int) * 131072 % 18446744073709551616) = ((B * 131072 % 18446744073709551616 : Nat) : Int) by omega, bits_xor_u64_nat _ _ lB (by omega), hE]
  have HL := Lib.hid lE
  clear hA hB hE lE
  have HC := Lib.hid (C.put E)
  have hss : ∀ v v', (W.setCell ⟨rb, 0, none⟩ v).setCell ⟨rb, 0, none⟩ v' = W.setCell ⟨rb, 0, none⟩ v' := two_sets W rb 0
  have hc := C.cell
  have hf := C.fr
  clear C
  go_enter Try.func81, Try.ntmps81
  go_wp2
  go_region
  all_goals go_wp2
  all_goals go_region
  all_goals go_wp2
  all_goals go_region
  all_goals go_wp2
  go_ret
  exact ⟨E, rfl, HL, Lib.hid (HC.out.below (((below_dr (Below.refl _ _) 3))))⟩
set_option maxRecDepth 100000 in
set_option maxHeartbeats 8000000 in
/-- Patterns are broken: some change places. -/
theorem sbreak (S : Sa w0 W hb gk kb n ck ks g c m d) (a b : Nat) (hab : a + 13 ≤ b) (hbm : b ≤ m) (hm : m ≤ 4096) :
    Calls Try.prog 66 #[.slice (some ⟨g, 0, none⟩) m c, .int .i64 a, .int .i64 b, ordF hb] W fun e W' => ∃ D : Array Nat, e = .returned (.tuple #[]) ∧ Hid (Sort.PermIn a b d D) ∧ Hid (Sa w0 W' hb gk kb n ck ks g c m D) := by
  have hd := S.size
  have HD := Lib.hid hd
  clear hd
  obtain ⟨L, hL⟩ : ∃ L, L = b - a := ⟨_, rfl⟩
  obtain ⟨q, hq⟩ : ∃ q, q = a + L / 4 * 2 - 1 := ⟨_, rfl⟩
  obtain ⟨M, hM⟩ : ∃ M : Nat, M = 2 ^ Lib.bitLen L := ⟨_, rfl⟩
  have hM1 : 1 ≤ M := by rw [hM]; exact Nat.two_pow_pos _
  have hM2 : M ≤ 2 * L := by rw [hM]; exact (bitLen_some L (by omega)).1 (by omega)
  have hNP := npower L (by omega)
  rw [← hM] at hNP
  have HN := Lib.hid hNP
  clear hNP hM
  have HR := Lib.hid (Rn.new S L)
  clear S
  obtain ⟨rb, hrb⟩ : ∃ x, x = W.heap.size := ⟨_, rfl⟩
  rw [← hrb] at HR
  have HRB := Lib.hid hrb
  clear hrb
  have z1 : (b : Int) - (a : Int) = (L : Int) := by omega
  have z2 : IntKind.i64.wrap (L : Int) = (L : Int) := by rw [IntKind.wrap_i64] <;> omega
  have z3 : Int.tdiv (L : Int) 4 = ((L / 4 : Nat) : Int) := rfl
  obtain ⟨p, hp⟩ : ∃ p, p = L / 4 := ⟨_, rfl⟩
  rw [← hp] at z3 hq
  have z4 : IntKind.i64.wrap (p : Int) = (p : Int) := by rw [IntKind.wrap_i64] <;> omega
  have z5 : IntKind.i64.wrap ((p : Int) * 2) = (p : Int) * 2 := by rw [IntKind.wrap_i64] <;> omega
  have z6 : IntKind.i64.wrap ((a : Int) + (p : Int) * 2) = (a : Int) + (p : Int) * 2 := by rw [IntKind.wrap_i64] <;> omega
  have z7 : IntKind.i64.wrap ((a : Int) + (p : Int) * 2 - 1) = (q : Int) := by rw [IntKind.wrap_i64] <;> omega
  have z8 : IntKind.i64.wrap ((a : Int) + (p : Int) * 2 + 1) = (q : Int) + 2 := by rw [IntKind.wrap_i64] <;> omega
  have z9 : (8 : Int) ≤ (L : Int) := by omega
  have za : IntKind.u64.wrap (L : Int) = (L : Int) := by rw [IntKind.wrap_u64]; omega
  have y1 : a ≤ q ∧ q + 2 < b ∧ L ≤ 4096 := by omega
  have y2 : (a : Int) + (L : Int) = (b : Int) := by omega
  clear hp hq hL
  go_enter Try.func66, Try.ntmps66
  go_wp2_with (go_at_call 80; fail)
  refine (HN.out _).mono ?_
  rintro e w1 ⟨rfl, rfl⟩
  rw [← HRB.out]
  go_wp2
  go_loopw [11] (fun vi wr => ∃ (t R : Nat) (d1 : Array Nat), vi = .int .i64 ((q + t : Nat) : Int) ∧ t ≤ 3 ∧ Hid (R < 18446744073709551616) ∧ Hid (Sort.PermIn a b d d1) ∧ Hid (Rn w0 wr hb gk kb n ck ks g c m d1 rb R)) (fun vi _ => q + 3 - (intOf vi).toNat)
  case atStart => exact ⟨0, L, d, rfl, by omega, Lib.hid (by omega), Lib.hid (Sort.permIn_refl _ _ _), HR⟩
  case round =>
    obtain ⟨t, R, d1, rfl, ht, HRl, HP, HRn⟩ := hrel
    obtain ⟨xi, hxi⟩ : ∃ x, x = q + t := ⟨_, rfl⟩
    rw [← hxi]
    by_cases ht3 : t < 3
    · have ht3' : (xi : Int) ≤ (q : Int) + 2 := by omega
      have hx1 : a ≤ xi ∧ xi < b := by omega
      have wx : IntKind.i64.wrap ((xi : Int) + 1) = (xi : Int) + 1 := by rw [IntKind.wrap_i64] <;> omega
      have HXI := Lib.hid hxi
      clear hxi
      go_wp2_with (go_at_call 81; fail)
      with_reducible refine (snext HRn.out HRl.out).mono ?_
      rintro e w2 ⟨y, rfl, Hy, HR2⟩
      obtain ⟨O, hO⟩ : ∃ O : Nat, O = y &&& (M - 1) := ⟨_, rfl⟩
      have lO : O ≤ M - 1 := by rw [hO]; exact Nat.and_le_right
      have eM : IntKind.u64.wrap ((M : Int) - 1) = (M : Int) - 1 := by rw [IntKind.wrap_u64]; omega
      have eAnd : bits .and .u64 (y : Int) ((M : Int) - 1) = (O : Int) := by
        rw [show ((M : Int) - 1) = ((M - 1 : Nat) : Int) by omega, bits_and_u64_nat _ _ Hy.out (by omega), hO]
      have eO : IntKind.i64.wrap (O : Int) = (O : Int) := by rw [IntKind.wrap_i64] <;> omega
      clear hO HRn HRl
      by_cases hLO : L ≤ O
      · have hLO' : (L : Int) ≤ (O : Int) := by omega
        obtain ⟨o, ho⟩ : ∃ o, o = O - L := ⟨_, rfl⟩
        obtain ⟨xo, hxo⟩ : ∃ x, x = a + o := ⟨_, rfl⟩
        have e1 : (O : Int) - (L : Int) = (o : Int) := by omega
        have e2 : (a : Int) + (o : Int) = (xo : Int) := by omega
        have e3 : IntKind.i64.wrap (o : Int) = (o : Int) := by rw [IntKind.wrap_i64] <;> omega
        have e4 : IntKind.i64.wrap (xo : Int) = (xo : Int) := by rw [IntKind.wrap_i64] <;> omega
        have hx2 : a ≤ xo ∧ xo < b := by omega
        clear ho hxo
        have HP2 := Lib.hid (Sort.permIn_trans _ _ _ a b HP.out (Sort.swp_permIn d1 a b xi xo hx1.1 hx1.2 hx2.1 hx2.2 (by rw [HP.out.1, HD.out]; exact hbm)))
        obtain ⟨iN1, hiN1⟩ : ∃ qq, qq = xi := ⟨_, rfl⟩
        obtain ⟨jN1, hjN1⟩ : ∃ qq, qq = xo := ⟨_, rfl⟩
        have ea1 : ((xi : Int)).toNat = iN1 := by omega
        have pa1 : (0 : Int) ≤ (xi : Int) := by omega
        have sa1 : (xi : Int) < (m : Int) := by omega
        have ra1 : IntKind.i64.wrap ((xi : Int)) = (xi : Int) := by rw [IntKind.wrap_i64] <;> omega
        have eb1 : ((xo : Int)).toNat = jN1 := by omega
        have pb1 : (0 : Int) ≤ (xo : Int) := by omega
        have sb1 : (xo : Int) < (m : Int) := by omega
        have rb1 : IntKind.i64.wrap ((xo : Int)) = (xo : Int) := by rw [IntKind.wrap_i64] <;> omega
        have SW3 := Lib.hid (HR2.out.swap (show xi < m by omega) (show xo < m by omega))
        obtain ⟨x1, hx1⟩ : ∃ qq, qq = d1[xi]! := ⟨_, rfl⟩
        obtain ⟨y1, hy1⟩ : ∃ qq, qq = d1[xo]! := ⟨_, rfl⟩
        have c1 : w2.cell? ⟨g, iN1, none⟩ = some (.int .i64 (x1 : Nat)) := by rw [hiN1, hx1]; exact (HR2.out.at' (show xi < m by omega)).1
        have f1 : w2.frozen? ⟨g, iN1, none⟩ = false := by rw [hiN1]; exact (HR2.out.at' (show xi < m by omega)).2.1
        have c2 : w2.cell? ⟨g, jN1, none⟩ = some (.int .i64 (y1 : Nat)) := by rw [hjN1, hy1]; exact (HR2.out.at' (show xo < m by omega)).1
        have f2 : w2.frozen? ⟨g, jN1, none⟩ = false := by rw [hjN1]; exact (HR2.out.at' (show xo < m by omega)).2.1
        obtain ⟨u3, c3⟩ : ∃ u, (w2.setCell ⟨g, iN1, none⟩ (.int .i64 (y1 : Nat))).cell? ⟨g, jN1, none⟩ = some u := by rw [hiN1, hjN1, hy1]; exact HR2.out.two (show xi < m by omega) (show xo < m by omega)
        have E1 : ((w2.setCell ⟨g, xi, none⟩ (.int .i64 (d1[xo]! : Nat))).setCell ⟨g, xo, none⟩ (.int .i64 (d1[xi]! : Nat))).drew = ((w2.setCell ⟨g, iN1, none⟩ (.int .i64 y1)).setCell ⟨g, jN1, none⟩ (.int .i64 x1)).drew := by rw [hx1, hy1, hiN1, hjN1]
        rw [E1] at SW3
        clear E1 hx1 hy1 hiN1 hjN1
        go_wp2_with fail
        go_big_region
        clear c1 c2 c3 f1 f2 pa1 sa1 ra1 pb1 sb1 rb1 ea1 eb1
        generalize ((w2.setCell ⟨g, iN1, none⟩ (.int .i64 y1)).setCell ⟨g, jN1, none⟩ (.int .i64 x1)).drew = W3 at SW3 ⊢
        go_wp2
        go_roundw
        case rel => exact ⟨t + 1, y, Sort.swp d1 xi xo, by rw [HXI.out]; go_num, by omega, Hy, HP2, SW3⟩
        case measure => simp only [intOf]; omega
      · have hLO' : ¬ (L : Int) ≤ (O : Int) := by omega
        obtain ⟨xo, hxo⟩ : ∃ x, x = a + O := ⟨_, rfl⟩
        have e2 : (a : Int) + (O : Int) = (xo : Int) := by omega
        have e4 : IntKind.i64.wrap (xo : Int) = (xo : Int) := by rw [IntKind.wrap_i64] <;> omega
        have hx2 : a ≤ xo ∧ xo < b := by omega
        clear hxo
        have HP2 := Lib.hid (Sort.permIn_trans _ _ _ a b HP.out (Sort.swp_permIn d1 a b xi xo hx1.1 hx1.2 hx2.1 hx2.2 (by rw [HP.out.1, HD.out]; exact hbm)))
        obtain ⟨iN2, hiN2⟩ : ∃ qq, qq = xi := ⟨_, rfl⟩
        obtain ⟨jN2, hjN2⟩ : ∃ qq, qq = xo := ⟨_, rfl⟩
        have ea2 : ((xi : Int)).toNat = iN2 := by omega
        have pa2 : (0 : Int) ≤ (xi : Int) := by omega
        have sa2 : (xi : Int) < (m : Int) := by omega
        have ra2 : IntKind.i64.wrap ((xi : Int)) = (xi : Int) := by rw [IntKind.wrap_i64] <;> omega
        have eb2 : ((xo : Int)).toNat = jN2 := by omega
        have pb2 : (0 : Int) ≤ (xo : Int) := by omega
        have sb2 : (xo : Int) < (m : Int) := by omega
        have rb2 : IntKind.i64.wrap ((xo : Int)) = (xo : Int) := by rw [IntKind.wrap_i64] <;> omega
        have SW3 := Lib.hid (HR2.out.swap (show xi < m by omega) (show xo < m by omega))
        obtain ⟨x2, hx2⟩ : ∃ qq, qq = d1[xi]! := ⟨_, rfl⟩
        obtain ⟨y2, hy2⟩ : ∃ qq, qq = d1[xo]! := ⟨_, rfl⟩
        have c1 : w2.cell? ⟨g, iN2, none⟩ = some (.int .i64 (x2 : Nat)) := by rw [hiN2, hx2]; exact (HR2.out.at' (show xi < m by omega)).1
        have f1 : w2.frozen? ⟨g, iN2, none⟩ = false := by rw [hiN2]; exact (HR2.out.at' (show xi < m by omega)).2.1
        have c2 : w2.cell? ⟨g, jN2, none⟩ = some (.int .i64 (y2 : Nat)) := by rw [hjN2, hy2]; exact (HR2.out.at' (show xo < m by omega)).1
        have f2 : w2.frozen? ⟨g, jN2, none⟩ = false := by rw [hjN2]; exact (HR2.out.at' (show xo < m by omega)).2.1
        obtain ⟨u3, c3⟩ : ∃ u, (w2.setCell ⟨g, iN2, none⟩ (.int .i64 (y2 : Nat))).cell? ⟨g, jN2, none⟩ = some u := by rw [hiN2, hjN2, hy2]; exact HR2.out.two (show xi < m by omega) (show xo < m by omega)
        have E2 : ((w2.setCell ⟨g, xi, none⟩ (.int .i64 (d1[xo]! : Nat))).setCell ⟨g, xo, none⟩ (.int .i64 (d1[xi]! : Nat))).drew = ((w2.setCell ⟨g, iN2, none⟩ (.int .i64 y2)).setCell ⟨g, jN2, none⟩ (.int .i64 x2)).drew := by rw [hx2, hy2, hiN2, hjN2]
        rw [E2] at SW3
        clear E2 hx2 hy2 hiN2 hjN2
        go_wp2_with fail
        go_big_region
        clear c1 c2 c3 f1 f2 pa2 sa2 ra2 pb2 sb2 rb2 ea2 eb2
        generalize ((w2.setCell ⟨g, iN2, none⟩ (.int .i64 y2)).setCell ⟨g, jN2, none⟩ (.int .i64 x2)).drew = W3 at SW3 ⊢
        go_wp2
        go_roundw
        case rel => exact ⟨t + 1, y, Sort.swp d1 xi xo, by rw [HXI.out]; go_num, by omega, Hy, HP2, SW3⟩
        case measure => simp only [intOf]; omega
    · have ht3' : ¬ (xi : Int) ≤ (q : Int) + 2 := by omega
      go_wp2
      go_end0
      exact ⟨rfl, d1, HP, Lib.hid HRn.out.sa⟩
end Go.Proofs.Ytopikpjagjnbhaa
