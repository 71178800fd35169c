/- Package code: get at int: what a step gets, with what is deferred. -/
import Derived.Test.YtdnddoiemaifjaaGet64
namespace Go.Proofs.Ytdnddoiemaifjaa
open Go.RowKit
variable {B : Nat}
set_option maxRecDepth 100000 in
set_option maxHeartbeats 2000000 in
theorem getInt1_ok (sb zb vb b : Nat) (u : FrameMode) (w : World) (hs : w.cell? ⟨sb, 0, none⟩ = some (.pointer (some ⟨b, 0, none⟩))) (he : w.cell? ⟨b, 2, none⟩ = some (.int .i64 0)) :
    CallsD Try.prog 72 #[.pointer (some ⟨sb, 0, none⟩), .pointer (some ⟨zb, 0, none⟩), .pointer (some ⟨vb, 0, none⟩)] u w fun e u' w' => u' = u ∧ e = .returned (.tuple #[]) ∧ w' = w := by
  go_enter_d Try.func72, Try.ntmps72
  go_wp2
  exact bodyPost_end (v := .tuple #[]) (by simp [results, Try.results72, go_sem]) rfl ⟨rfl, rfl⟩
set_option maxRecDepth 100000 in
set_option maxHeartbeats 2000000 in
theorem getInt1_err (sb zb vb b : Nat) (u : FrameMode) (er : Int) (v : Value) (w : World) (hs : w.cell? ⟨sb, 0, none⟩ = some (.pointer (some ⟨b, 0, none⟩))) (he : w.cell? ⟨b, 2, none⟩ = some (.int .i64 er)) (h0 : er ≠ 0) (hz : w.cell? ⟨zb, 0, none⟩ = some (.int .i64 0)) (hv : Box w vb 0 v) :
    CallsD Try.prog 72 #[.pointer (some ⟨sb, 0, none⟩), .pointer (some ⟨zb, 0, none⟩), .pointer (some ⟨vb, 0, none⟩)] u w fun e u' w' => u' = u ∧ e = .returned (.tuple #[]) ∧ w' = w.setCell ⟨vb, 0, none⟩ (.int .i64 0) := by
  have hn : (er != 0) = true := by simpa using h0
  have hvc := hv.cell
  have hvf := hv.free
  clear h0
  go_enter_d Try.func72, Try.ntmps72
  go_wp2
  exact bodyPost_end (v := .tuple #[]) (by simp [results, Try.results72, go_sem]) rfl ⟨rfl, rfl⟩
set_option maxRecDepth 100000 in
set_option maxHeartbeats 4000000 in
theorem getInt_ok (b g : Nat) (lb : Array Value) (eg : ∀ args w, (callFunc g args).run Try.prog w = .ok (.enter g args) w) (bs rest : List Int) (v : Int) (w : World) (h : Src B w b bs 0) (hB : B ≤ w.heap.size)
    (hst : ∀ W, Below w.heap.size w W → Src B W b bs 0 → Calls Try.prog g lb W fun e w' => e = .returned (.int .i64 v) ∧ Chg (fun k => k = b) W w' ∧ Src B w' b rest 0) :
    Calls Try.prog 66 #[.pointer (some ⟨b, 0, none⟩), .func (.func g) #[] lb] w fun e w' => e = .returned (.int .i64 v) ∧ Chg (fun k => k = b) w w' ∧ Src B w' b rest 0 := by
  have hmf : ∀ (fn : Fn) (first cap : Array Value) (w : World), (Instr.makeFunc fn first cap).run Try.prog w = .ok (.func fn first cap) w := fun _ _ _ _ => rfl
  have hal : Below w.heap.size w (((w.alloc (.cells #[.pointer (some ⟨b, 0, none⟩)] 55)).alloc (.cells #[.int .i64 0] 3)).alloc (.cells #[.int .i64 0] 3)) := below_al (below_al (below_al (Below.refl _ _) _) _) _
  have h3 := h.below hal
  have HM := Lib.hid (sis b true _ h3.made.cell)
  have HS := Lib.hid (hst _ hal h3)
  have he := h3.err.cell
  have hlt := h.made.lt
  have BS := ((Box.new w (.pointer (some ⟨b, 0, none⟩)) 55).below (below_al (Below.refl _ _) (.cells #[.int .i64 0] 3))).below (below_al (Below.refl _ _) (.cells #[.int .i64 0] 3))
  have BV := (Box.new (w.alloc (.cells #[.pointer (some ⟨b, 0, none⟩)] 55)) (.int .i64 0) 3).below (below_al (Below.refl _ _) (.cells #[.int .i64 0] 3))
  have BZ := Box.new ((w.alloc (.cells #[.pointer (some ⟨b, 0, none⟩)] 55)).alloc (.cells #[.int .i64 0] 3)) (.int .i64 0) 3
  have hz1 : (w.alloc (.cells #[.pointer (some ⟨b, 0, none⟩)] 55)).heap.size = w.heap.size + 1 := by simp
  have hz2 : ((w.alloc (.cells #[.pointer (some ⟨b, 0, none⟩)] 55)).alloc (.cells #[.int .i64 0] 3)).heap.size = w.heap.size + 1 + 1 := by simp
  rw [hz1] at BV
  rw [hz2] at BZ
  clear hz1 hz2
  go_enter_defers Try.func66, Try.ntmps66
  go_wp2_with (first
    | (go_at_call 52; (with_reducible refine HM.out.mono ?_); rintro e w1 ⟨rfl, rfl⟩)
    | (refine HS.out.mono ?_; rintro e w2 ⟨rfl, hc2, hs2⟩; have BV2 := BV.keep hc2 (by omega); have hvc := BV2.cell; have hvf := BV2.free))
  have k1 := (BS.keep hc2 (by omega)).keep (S := fun z => z = w.heap.size + 1) (Chg.setCell (S := fun z => z = w.heap.size + 1) (Chg.refl _ _) (w.heap.size + 1) 0 (.int .i64 v) rfl) (by omega)
  have k2 := hs2.new_ (k := w.heap.size + 1) (by omega) (by omega) (.int .i64 v)
  have k3 := (BV2.set (.int .i64 v)).cell
  have k4 := (Chg.trans (Chg.of_below (S := fun k => k = b) hal) hc2).new_ (k := w.heap.size + 1) (by omega) (.int .i64 v)
  refine leaves_cons (f := 70) (args := #[.pointer (some ⟨b, 0, none⟩)]) (by simp) (by simp [go_sem]) ?_
  refine (caught_idle _ _).mono ?_
  rintro e u' w'' ⟨rfl, rfl, rfl⟩
  refine leaves_cons (f := 72) (args := #[.pointer (some ⟨w.heap.size, 0, none⟩), .pointer (some ⟨w.heap.size + 1 + 1, 0, none⟩), .pointer (some ⟨w.heap.size + 1, 0, none⟩)]) (by simp [settle]) (by simp [go_sem]) ?_
  refine (getInt1_ok _ _ _ b _ _ k1.cell k2.err.cell).mono ?_
  rintro e u' w'' ⟨rfl, rfl, rfl⟩
  simp [Leaves, settle, results, Try.results66, go_sem, k3]
  exact ⟨k4, k2⟩
set_option maxRecDepth 100000 in
set_option maxHeartbeats 4000000 in
theorem getInt_err (b g : Nat) (lb : Array Value) (eg : ∀ args w, (callFunc g args).run Try.prog w = .ok (.enter g args) w) (bs : List Int) (x : Int) (hx : x ≠ 0) (w : World) (h : Src B w b bs 0) (hB : B ≤ w.heap.size)
    (hst : ∀ W, Below w.heap.size w W → Src B W b bs 0 → Calls Try.prog g lb W fun e w' => e = thrown x ∧ Chg (fun k => k = b) W w' ∧ ∃ bs, Src B w' b bs 0) :
    Calls Try.prog 66 #[.pointer (some ⟨b, 0, none⟩), .func (.func g) #[] lb] w fun e w' => e = .returned (.int .i64 0) ∧ Chg (fun k => k = b) w w' ∧ Src B w' b [] x := by
  have hmf : ∀ (fn : Fn) (first cap : Array Value) (w : World), (Instr.makeFunc fn first cap).run Try.prog w = .ok (.func fn first cap) w := fun _ _ _ _ => rfl
  have hal : Below w.heap.size w (((w.alloc (.cells #[.pointer (some ⟨b, 0, none⟩)] 55)).alloc (.cells #[.int .i64 0] 3)).alloc (.cells #[.int .i64 0] 3)) := below_al (below_al (below_al (Below.refl _ _) _) _) _
  have h3 := h.below hal
  have HM := Lib.hid (sis b true _ h3.made.cell)
  have HS := Lib.hid (hst _ hal h3)
  have he := h3.err.cell
  have hlt := h.made.lt
  have BS := ((Box.new w (.pointer (some ⟨b, 0, none⟩)) 55).below (below_al (Below.refl _ _) (.cells #[.int .i64 0] 3))).below (below_al (Below.refl _ _) (.cells #[.int .i64 0] 3))
  have BV := (Box.new (w.alloc (.cells #[.pointer (some ⟨b, 0, none⟩)] 55)) (.int .i64 0) 3).below (below_al (Below.refl _ _) (.cells #[.int .i64 0] 3))
  have BZ := Box.new ((w.alloc (.cells #[.pointer (some ⟨b, 0, none⟩)] 55)).alloc (.cells #[.int .i64 0] 3)) (.int .i64 0) 3
  have hz1 : (w.alloc (.cells #[.pointer (some ⟨b, 0, none⟩)] 55)).heap.size = w.heap.size + 1 := by simp
  have hz2 : ((w.alloc (.cells #[.pointer (some ⟨b, 0, none⟩)] 55)).alloc (.cells #[.int .i64 0] 3)).heap.size = w.heap.size + 1 + 1 := by simp
  rw [hz1] at BV
  rw [hz2] at BZ
  clear hz1 hz2
  go_enter_defers Try.func66, Try.ntmps66
  go_wp2_with (first
    | (go_at_call 52; (with_reducible refine HM.out.mono ?_); rintro e w1 ⟨rfl, rfl⟩)
    | (refine HS.out.mono ?_; rintro e w2 ⟨he2, hc2, bs2, hs2⟩; unfold thrown at he2; subst he2; have BV2 := BV.keep hc2 (by omega); have BS2 := BS.keep hc2 (by omega); have BZ2 := BZ.keep hc2 (by omega)))
  obtain ⟨A, n, c, r1, r2, r3⟩ := hs2.row
  refine leaves_cons (f := 70) (args := #[.pointer (some ⟨b, 0, none⟩)]) (by simp) (by simp [go_sem]) ?_
  refine (caught_fault b _ _ _ x _ hs2.made r1 hs2.err []).mono ?_
  rintro e u' w3 ⟨rfl, rfl, hc3, m0, m1, m2⟩
  have BV3 := BV2.keep hc3 (by omega)
  have BS3 := BS2.keep hc3 (by omega)
  have BZ3 := BZ2.keep hc3 (by omega)
  have hs3 : Src B w3 b [] x := ⟨m0, ⟨none, 0, 0, m1, Rds.none_ _ _, fun ad e => by cases e⟩, m2⟩
  have k2 := hs3.new_ (k := w.heap.size + 1) (by omega) (by omega) (.int .i64 0)
  have k3 := (BV3.set (.int .i64 0)).cell
  have k4 := (Chg.trans (Chg.trans (Chg.of_below (S := fun k => k = b) hal) hc2) hc3).new_ (k := w.heap.size + 1) (by omega) (.int .i64 0)
  refine leaves_cons (f := 72) (args := #[.pointer (some ⟨w.heap.size, 0, none⟩), .pointer (some ⟨w.heap.size + 1 + 1, 0, none⟩), .pointer (some ⟨w.heap.size + 1, 0, none⟩)]) (by simp [settle]) (by simp [go_sem]) ?_
  refine (getInt1_err _ _ _ b _ x _ _ BS3.cell m2.cell hx BZ3.cell BV3).mono ?_
  rintro e u' w'' ⟨rfl, rfl, rfl⟩
  simp [Leaves, settle, results, Try.results66, go_sem, k3]
  exact ⟨k4, k2⟩
end Go.Proofs.Ytdnddoiemaifjaa
