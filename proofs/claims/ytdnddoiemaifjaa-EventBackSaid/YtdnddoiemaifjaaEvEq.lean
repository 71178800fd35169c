/- Two events compared, of any. -/
import Derived.Test.YtdnddoiemaifjaaEvSame
namespace Go.Proofs.Ytdnddoiemaifjaa
open Go.RowKit
set_option maxRecDepth 100000 in
set_option maxHeartbeats 16000000 in
theorem eqRegsG (d : Nat) (a6 a7 a8 a9 a10 a11 a12 a13 : Int) (b6 b7 b8 b9 b10 b11 b12 b13 : Int) (w : World) : (Op.equalIn (d + 1 + 1) 26 (.agg #[.int .i64 a6, .int .i64 a7, .int .i64 a8, .int .i64 a9, .int .i64 a10, .int .i64 a11, .int .i64 a12, .int .i64 a13]) (.agg #[.int .i64 b6, .int .i64 b7, .int .i64 b8, .int .i64 b9, .int .i64 b10, .int .i64 b11, .int .i64 b12, .int .i64 b13])).run Try.prog w = .ok (a6 == b6 && (a7 == b7 && (a8 == b8 && (a9 == b9 && (a10 == b10 && (a11 == b11 && (a12 == b12 && a13 == b13))))))) w := by
  rw [Op.equalIn]
  simp only [Sem.run_bind, run_underlying Try.underlying26, Result.andThen_ok]
  simp only [Std.Legacy.Range.forIn_eq_forIn_range', Std.Legacy.Range.size, Nat.sub_zero, Nat.add_sub_cancel, Nat.div_one, List.range'_succ, List.range'_zero, List.forIn_cons, List.forIn_nil]
  cases h6 : a6 == b6
  · go_simp
  · cases h7 : a7 == b7
    · go_simp
    · cases h8 : a8 == b8
      · go_simp
      · cases h9 : a9 == b9
        · go_simp
        · cases h10 : a10 == b10
          · go_simp
          · cases h11 : a11 == b11
            · go_simp
            · cases h12 : a12 == b12
              · go_simp
              · cases h13 : a13 == b13
                · go_simp
                · go_simp
set_option maxRecDepth 100000 in
set_option maxHeartbeats 4000000 in
theorem evNe (a0 a1 a2 a3 a4 a5 a6 a7 a8 a9 a10 a11 a12 a13 a14 : Int) (b0 b1 b2 b3 b4 b5 b6 b7 b8 b9 b10 b11 b12 b13 b14 : Int) (w : World) : (binOp .neq 30 (.agg #[.int .i64 a0, .int .i64 a1, .int .i64 a2, .int .i64 a3, .int .i64 a4, .int .i64 a5, .int .i64 a6, .int .i64 a7, .int .i64 a8, .int .i64 a9, .int .i64 a10, .int .i64 a11, .int .i64 a12, .int .i64 a13, .int .i64 a14]) (.agg #[.int .i64 b0, .int .i64 b1, .int .i64 b2, .int .i64 b3, .int .i64 b4, .int .i64 b5, .int .i64 b6, .int .i64 b7, .int .i64 b8, .int .i64 b9, .int .i64 b10, .int .i64 b11, .int .i64 b12, .int .i64 b13, .int .i64 b14])).run Try.prog w = .ok (.bool (!(a0 == b0 && (a1 == b1 && (a2 == b2 && (a3 == b3 && (a4 == b4 && (a5 == b5 && ((a6 == b6 && (a7 == b7 && (a8 == b8 && (a9 == b9 && (a10 == b10 && (a11 == b11 && (a12 == b12 && a13 == b13))))))) && a14 == b14))))))))) w := by
  have z : ∀ w, (Op.equalIn 9998 26 (.agg #[.int .i64 a6, .int .i64 a7, .int .i64 a8, .int .i64 a9, .int .i64 a10, .int .i64 a11, .int .i64 a12, .int .i64 a13]) (.agg #[.int .i64 b6, .int .i64 b7, .int .i64 b8, .int .i64 b9, .int .i64 b10, .int .i64 b11, .int .i64 b12, .int .i64 b13])).run Try.prog w = _ := fun w => eqRegsG 9996 a6 a7 a8 a9 a10 a11 a12 a13 b6 b7 b8 b9 b10 b11 b12 b13 w
  generalize (a6 == b6 && (a7 == b7 && (a8 == b8 && (a9 == b9 && (a10 == b10 && (a11 == b11 && (a12 == b12 && a13 == b13))))))) = q at z ⊢
  cases h0 : a0 == b0
  · go_simp
  · cases h1 : a1 == b1
    · go_simp
    · cases h2 : a2 == b2
      · go_simp
      · cases h3 : a3 == b3
        · go_simp
        · cases h4 : a4 == b4
          · go_simp
          · cases h5 : a5 == b5
            · go_simp
            · cases q
              · go_simp
              · cases h14 : a14 == b14
                · go_simp
                · go_simp
def eqEv (x y : Ev) : Bool := x.kind == y.kind && (x.act == y.act && (x.thread == y.thread && (x.value == y.value && (x.program == y.program && (x.pc == y.pc && ((x.r0 == y.r0 && (x.r1 == y.r1 && (x.r2 == y.r2 && (x.r3 == y.r3 && (x.r4 == y.r4 && (x.r5 == y.r5 && (x.r6 == y.r6 && x.r7 == y.r7))))))) && x.depth == y.depth))))))
theorem eqEv_iff (x y : Ev) : eqEv x y = decide (x = y) := by
  obtain ⟨a0, a1, a2, a3, a4, a5, a6, a7, a8, a9, a10, a11, a12, a13, a14⟩ := x
  obtain ⟨b0, b1, b2, b3, b4, b5, b6, b7, b8, b9, b10, b11, b12, b13, b14⟩ := y
  by_cases h : (⟨a0, a1, a2, a3, a4, a5, a6, a7, a8, a9, a10, a11, a12, a13, a14⟩ : Ev) = ⟨b0, b1, b2, b3, b4, b5, b6, b7, b8, b9, b10, b11, b12, b13, b14⟩
  · rw [decide_eq_true h]
    cases h
    simp [eqEv]
  · rw [decide_eq_false h]
    cases hq : eqEv ⟨a0, a1, a2, a3, a4, a5, a6, a7, a8, a9, a10, a11, a12, a13, a14⟩ ⟨b0, b1, b2, b3, b4, b5, b6, b7, b8, b9, b10, b11, b12, b13, b14⟩
    · rfl
    · exfalso
      apply h
      simp only [eqEv, Bool.and_eq_true, beq_iff_eq] at hq
      simp only [Ev.mk.injEq]
      exact ⟨hq.1, hq.2.1, hq.2.2.1, hq.2.2.2.1, hq.2.2.2.2.1, hq.2.2.2.2.2.1, hq.2.2.2.2.2.2.1.1, hq.2.2.2.2.2.2.1.2.1, hq.2.2.2.2.2.2.1.2.2.1, hq.2.2.2.2.2.2.1.2.2.2.1, hq.2.2.2.2.2.2.1.2.2.2.2.1, hq.2.2.2.2.2.2.1.2.2.2.2.2.1, hq.2.2.2.2.2.2.1.2.2.2.2.2.2.1, hq.2.2.2.2.2.2.1.2.2.2.2.2.2.2, hq.2.2.2.2.2.2.2⟩
end Go.Proofs.Ytdnddoiemaifjaa
