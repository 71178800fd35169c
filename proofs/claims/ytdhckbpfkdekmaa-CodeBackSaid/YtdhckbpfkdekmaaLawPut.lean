/- The law's put: a value behind bytes. -/
import Derived.Test.YtdhckbpfkdekmaaCodePutB
import Derived.Test.YtdhckbpfkdekmaaRegionJ
import Derived.Test.YtdhckbpfkdekmaaChg
namespace Go.Proofs.Ytdhckbpfkdekmaa
open Go.RowKit
/-- Something that is put. -/
structure ValV where
  k : Int
  n : Nat
  i : Int
  s : ByteArray
  A : Option Addr
  m : Nat
  c : Nat
  l : List Int
def ValV.val (v : ValV) : Value := .agg #[.int .i64 v.k, .int .u64 v.n, .int .i64 v.i, .string v.s, .slice v.A v.m v.c]
structure ValV.ok (w : World) (v : ValV) : Prop where
  n : v.n < 18446744073709551616
  i : I64 v.i
  l : ∀ x ∈ v.l, I64 x
  row : Rds w 1 v.A v.m v.c (nums .i64 v.l)
def encV (v : ValV) : List Int :=
  if v.k = 0 then enc v.n else if v.k = 1 then enc (zigN v.i) else if v.k = 2 then enc v.s.size ++ bytesOf v.s
  else if v.k = 3 then [flagN (decide (0 < v.i))] else if v.k = 4 then enc v.m ++ encs v.l else [((v.n % 256 : Nat) : Int)]
/-- Rows that put makes by turns. -/
structure PutG (w0 : World) (n : Nat) (bs : List Int) (y : Int) (x0 x2 x6 : Option Value) (W : World) : Prop where
  below : Below w0.heap.size w0 W
  r0 : ∀ v, x0 = some v → x2 = none → W.ownsRow w0.heap.size 5 1 v 0 [] ∧ (∀ g, x6 = some (.slice (some ⟨g, 0, none⟩) 1 1) → v.ownBlock ≠ some g)
  r2 : ∀ v, x2 = some v → W.ownsRow w0.heap.size 5 1 v n (nums .u8 bs) ∧ (∀ g, x6 = some (.slice (some ⟨g, 0, none⟩) 1 1) → v.ownBlock ≠ some g)
  r6 : ∀ u, x6 = some u → ∃ g, u = .slice (some ⟨g, 0, none⟩) 1 1 ∧ Rds W 1 (some ⟨g, 0, none⟩) 1 1 (nums .u8 [y])
section
variable {w0 W w1 : World} {n : Nat} {bs : List Int} {y : Int} {x0 x2 x6 : Option Value}
theorem PutG.lit0 (h : PutG w0 n bs y none x2 x6 W) (h2 : x2 = none) : PutG w0 n bs y (some (.slice (some ⟨W.heap.size, 0, none⟩) 0 0)) x2 x6 (W.alloc (.cells #[] 5)) := by
  subst h2
  have hal : Below W.heap.size W (W.alloc (.cells #[] 5)) := below_al (Below.refl _ _) _
  refine ⟨below_then h.below h.below.size hal, ?_, (fun v e => by cases e), fun u e => ?_⟩
  · intro v e _
    cases e
    refine ⟨World.ownsRow_made W #[] 0 h.below.size (Nat.zero_le _) (by simp), fun g e => ?_⟩
    obtain ⟨g', e', hr⟩ := h.r6 _ e
    cases e'
    have hlt := World.block_lt_of_cell? W _ (hr.cell _ rfl 0 _ rfl)
    have e5 : ((⟨g, 0, none⟩ : Addr).add 0).block = g := by unfold Addr.add; rfl
    rw [e5] at hlt
    simp [Value.ownBlock]
    omega
  · obtain ⟨g, rfl, hr⟩ := h.r6 u e
    exact ⟨g, rfl, hr.below hal⟩
theorem PutG.lit6 (h : PutG w0 n bs y x0 x2 none W) : PutG w0 n bs y x0 x2 (some (.slice (some ⟨W.heap.size, 0, none⟩) 1 1)) (W.alloc (.cells #[.int .u8 y] 5)) := by
  have hal : Below W.heap.size W (W.alloc (.cells #[.int .u8 y] 5)) := below_al (Below.refl _ _) _
  refine ⟨below_then h.below h.below.size hal, ?_, ?_, fun u e => ?_⟩
  · intro v e e2
    obtain ⟨h1, _⟩ := h.r0 v e e2
    refine ⟨own_below h1 hal, fun g e => ?_⟩
    cases e
    intro e3
    have := (h1.lt _ e3).2
    omega
  · intro v e
    obtain ⟨h1, _⟩ := h.r2 v e
    refine ⟨own_below h1 hal, fun g e => ?_⟩
    cases e
    intro e3
    have := (h1.lt _ e3).2
    omega
  · cases e
    exact ⟨_, rfl, rds_lit W _ 1 1 [.int .u8 y] rfl (by decide)⟩
theorem PutG.app {v v1 : Value} (h : PutG w0 n bs y (some v) none x6 W) (ho : w1.ownsRow w0.heap.size 5 1 v1 n (nums .u8 bs)) (hb : Below w0.heap.size w0 w1) (hg : W.grownBy w1 v.ownBlock) (hat : v1.ownBlock = v.ownBlock ∨ ∃ b, v1.ownBlock = some b ∧ W.heap.size ≤ b) :
    PutG w0 n bs y (some v) (some v1) x6 w1 := by
  obtain ⟨h0, h6⟩ := h.r0 v rfl rfl
  refine ⟨hb, (fun v e e2 => by cases e2), ?_, ?_⟩
  · intro v2 e
    cases e
    refine ⟨ho, fun g e => ?_⟩
    have h7 := h6 g e
    obtain ⟨g', e', hr⟩ := h.r6 _ e
    cases e'
    have hlt := World.block_lt_of_cell? W _ (hr.cell _ rfl 0 _ rfl)
    have e5 : ((⟨g, 0, none⟩ : Addr).add 0).block = g := by unfold Addr.add; rfl
    rw [e5] at hlt
    rcases hat with hat | ⟨b, hat, hb⟩
    · rw [hat]; exact h7
    · rw [hat]; intro e6; cases e6; omega
  · intro u e
    obtain ⟨g, rfl, hr⟩ := h.r6 u e
    have h7 := h6 g e
    refine ⟨g, rfl, ?_⟩
    cases hv : v.ownBlock with
    | none => rw [hv] at hg; exact hr.same (fun ad e8 => by cases e8; exact hg.block g (World.block_lt_of_cell? W _ (hr.cell _ rfl 0 _ rfl)) (by simp))
    | some g0 => rw [hv] at hg; exact hr.grown hg (fun ad e8 => by cases e8; intro e9; exact h7 (by rw [hv]; exact congrArg some e9.symm))
end
structure PutA (w0 : World) (n : Nat) (bs : List Int) (y : Int) (a b c e f : Option Value) (W : World) : Prop where
  o1 : b ≠ none → a ≠ none
  o2 : e ≠ none → b ≠ none ∧ c ≠ none
  p : e = none → PutG w0 n bs y a b c W
  q : ∀ v, e = some v → W.ownsRow w0.heap.size 5 1 v (n + 1) (nums .u8 bs ++ nums .u8 [y]) ∧ Below w0.heap.size w0 W
  r : ∀ v, f = some v → e = some v
theorem PutA.below {w0 : World} {n : Nat} {bs : List Int} {y : Int} {a b c e f : Option Value} {W : World} (h : PutA w0 n bs y a b c e f W) : Below w0.heap.size w0 W := by
  cases e with
  | none => exact (h.p rfl).below
  | some v => exact (h.q v rfl).2
end Go.Proofs.Ytdhckbpfkdekmaa
