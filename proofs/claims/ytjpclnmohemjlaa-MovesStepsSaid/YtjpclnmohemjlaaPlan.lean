/- Package moves: enough, going, Plan. -/
import Derived.Test.YtjpclnmohemjlaaMoves
import Derived.Test.YtjpclnmohemjlaaChg
import Derived.Test.YtjpclnmohemjlaaPlanPlain
namespace Go.Proofs.Ytjpclnmohemjlaa
open Go.RowKit
set_option maxHeartbeats 1000000 in
theorem menough (c0 : Int) (B : Option Addr) (n d : Nat) (ts : List Int) (w : World) (hr2 : Rds w 1 B n d (nums .i64 ts)) (hc : I64 c0) (hti : ∀ t ∈ ts, 0 ≤ t) (hc0 : 0 ≤ c0) :
    Calls Try.prog 27 #[.int .i64 c0, .slice B n d] w fun e w' => e = .returned (.bool (enoughB c0 ts)) ∧ w = w' := by
  have HM := Lib.hid (nums_inj_len hr2)
  have hmax : n ≤ 9223372036854775807 := by have := hr2.le; have := hr2.max; unfold maxLen at this; omega
  have HT := Lib.hid hti
  clear hti
  unfold I64 at hc
  go_enter Try.func27, Try.ntmps27
  go_wp2
  go_loop [0, 9] (fun a i => ∃ (k : Nat) (c : Int), k ≤ n ∧ i = .int .i64 k ∧ a = .int .i64 c ∧ 0 ≤ c ∧ c ≤ c0 ∧ Hid (enoughB c (ts.drop k) = enoughB c0 ts)) (fun _ i => n - (intOf i).toNat)
  case atStart => exact ⟨0, c0, Nat.zero_le _, rfl, rfl, hc0, Int.le_refl _, by show _ = _; simp⟩
  case round =>
    obtain ⟨k, c, hk, rfl, rfl, hc1, hc2, HE⟩ := hrel
    by_cases hlt : k < n
    · have hkt : k < ts.length := by rw [HM.out]; exact hlt
      obtain ⟨bd, rfl⟩ := hr2.some_ (by omega)
      have hcell := hr2.cell bd rfl k _ (nums_get .i64 ts k hkt)
      have hh := HE.out
      rw [List.drop_eq_getElem_cons hkt] at hh
      have ht0 := HT.out ts[k] (List.getElem_mem hkt)
      generalize ts[k] = t at hcell hh ht0
      simp only [enoughB] at hh
      by_cases hq : c < t
      · rw [if_pos hq] at hh
        have HH := Lib.hid hh
        clear hh
        go_wp2
        go_ret
        exact ⟨ret_bool HH.out, rfl⟩
      · rw [if_neg hq] at hh
        have HH := Lib.hid hh
        clear hh
        go_wp2
        go_round
        case rel => exact ⟨k + 1, c - t, by omega, by go_num, by go_num, by omega, by omega, HH⟩
        case measure => simp [intOf]; omega
    · go_wp2
      go_ret
      refine ⟨ret_bool ?_, rfl⟩
      have hh := HE.out
      rw [List.drop_of_length_le (by rw [HM.out]; omega)] at hh
      rw [← hh]
      rfl
/-- out, behind its cell. -/
def OutIs (w : World) (b0 p : Nat) (out : List Int) : Prop := ∃ A n c, Box w p 0 (.slice A n c) ∧ Rds w 1 A n c (nums .i64 out) ∧ ∀ ad, A = some ad → ad.block ≠ p ∧ b0 ≤ ad.block
set_option maxHeartbeats 1000000 in
theorem mgoing1 (c : Nat) (o : Int) (b0 q p : Nat) (A : Option Addr) (m d : Nat) (os out : List Int) (w : World) (hq : Box w q 0 (.slice A m d)) (hr : Rds w 1 A m d (nums .i64 os)) (hout : OutIs w b0 p out) (hb0 : b0 ≤ w.heap.size) (hc : c < m) (hl : out.length ≤ 100000) :
    Calls Try.prog 33 #[.int .i64 c, .int .i64 o, .pointer (some ⟨q, 0, none⟩), .pointer (some ⟨p, 0, none⟩)] w fun e w' => (∃ v, e = .returned v) ∧ OutIs w' b0 p (takeC os out c o) ∧ Chg (fun k => k = p) w w' := by
  have HN := Lib.hid (nums_inj_len hr)
  have hmax : m ≤ 9223372036854775807 := by have := hr.le; have := hr.max; unfold maxLen at this; omega
  have hkx : c < os.length := by rw [HN.out]; exact hc
  obtain ⟨ad, rfl⟩ := hr.some_ (by omega)
  have hcell := hr.cell ad rfl c _ (nums_get .i64 os c hkx)
  have hq1 := hq.cell
  have hg : os[c]? = some os[c] := List.getElem?_eq_getElem hkx
  generalize os[c] = x at hcell hg
  have HG := Lib.hid hg
  clear hg
  obtain ⟨B, n, e, hb, hrb, hne⟩ := hout
  have hb1 := hb.cell
  have hb2 := hb.free
  have HL : Hid (out.length = n) := by have := hrb.len; rw [nums_length] at this; show _ = _; omega
  by_cases hx : x = o
  · have hxx : (x == o) = true := by simp [hx]
    have hle : (n : Int) ≤ e := by have := hrb.le; omega
    have hnl : n ≤ 100000 := by rw [← HL.out]; exact hl
    go_enter Try.func33, Try.ntmps33
    go_wp2_with (at_builtin; refine apg rfl _ _ 22 3 _ 8 (by rfl) Try.underlying22 info_int rfl (by decide) B n e _ (.int .i64 c) (by rfl) (by rfl) rfl hrb (by omega) ?_; intro v1 w1 hown hbel; obtain ⟨A1, c1, rfl⟩ := own_slice hown; have hp1 := (hb.below hbel).cell; have hp2 := (hb.below hbel).free)
    go_end0
    refine ⟨⟨_, rfl⟩, ?_, (Chg.of_below hbel).setCell p 0 _ rfl⟩
    obtain ⟨_, hr1⟩ := own_rds' hown
    have hnew : ∀ ad, A1 = some ad → w.heap.size ≤ ad.block := fun ad e => own_base hown ad.block (by rw [e]; rfl)
    have hpl := hb.lt
    refine ⟨A1, n + 1, c1, (hb.below hbel).set _, ?_, fun ad e => by have := hnew ad e; omega⟩
    have e1 : nums .i64 (takeC os out c o) = nums .i64 out ++ [.int .i64 c] := by
      unfold takeC
      rw [if_pos (by rw [HG.out, hx]), nums_append]
      rfl
    rw [e1]
    exact Chg.rds (S := fun k => k = p) ((Chg.refl _ _).setCell p 0 _ rfl) hr1 (fun ad e => by have := hnew ad e; omega)
  · have hxx : (x == o) = false := by simp [hx]
    go_enter Try.func33, Try.ntmps33
    go_wp2
    go_end0
    refine ⟨⟨_, rfl⟩, ?_, Chg.refl _ _⟩
    unfold takeC
    rw [if_neg (by rw [HG.out]; simpa using hx)]
    exact ⟨B, n, e, hb, hrb, hne⟩
set_option maxHeartbeats 4000000 in
theorem mgoing (A : Option Addr) (m d : Nat) (os : List Int) (B : Option Addr) (n e : Nat) (more : List Int) (w : World) (hr : Rds w 1 A m d (nums .i64 os)) (hr2 : Rds w 1 B n e (nums .i64 more)) (hm : m ≤ 64) (hn : n ≤ 64) (hmore : ∀ k ∈ more, 0 ≤ k ∧ k ≤ 64) :
    Calls Try.prog 29 #[.slice A m d, .slice B n e] w fun e w' => (∃ C l f, e = .returned (.slice C l f) ∧ Rds w' 1 C l f (nums .i64 (coresV os more)) ∧ l ≤ 8192 ∧ ∀ ad, C = some ad → w.heap.size ≤ ad.block) ∧ Below w.heap.size w w' := by
  have HN := Lib.hid (nums_inj_len hr)
  have HM := Lib.hid (nums_inj_len hr2)
  have HK := Lib.hid hmore
  clear hmore
  have eg : ∀ args w, (callFunc 33 args).run Try.prog w = .ok (.enter 33 args) w := Go.Proofs.enters_of Try.func33 (by kernel_rfl) rfl
  have EG := Lib.hid eg
  clear eg
  go_enter Try.func29, Try.ntmps29
  go_wp2
  have hW : Below w.heap.size w ((w.alloc (.cells #[.slice A m d] 22)).alloc (.cells #[.slice none 0 0] 22)) := below_al (below_al (Below.refl _ _) _) _
  have hQ : Box ((w.alloc (.cells #[.slice A m d] 22)).alloc (.cells #[.slice none 0 0] 22)) w.heap.size 0 (.slice A m d) := (Box.new w _ _).below (below_al (Below.refl _ _) _)
  have hP : OutIs ((w.alloc (.cells #[.slice A m d] 22)).alloc (.cells #[.slice none 0 0] 22)) w.heap.size (w.heap.size + 1) [] :=
    ⟨none, 0, 0, (by have := Box.new (w.alloc (.cells #[.slice A m d] 22)) (.slice none 0 0) 22; simpa using this), Rds.none_ _ _, fun ad e => by cases e⟩
  generalize (w.alloc (.cells #[.slice A m d] 22)).alloc (.cells #[.slice none 0 0] 22) = W at hW hQ hP
  obtain ⟨p, hp⟩ : ∃ p, p = w.heap.size + 1 := ⟨_, rfl⟩
  rw [← hp] at hP ⊢
  obtain ⟨q, hq⟩ : ∃ q, q = w.heap.size := ⟨_, rfl⟩
  have hqw : w.heap.size = q := hq.symm
  rw [← hq] at hQ
  rw [show Value.pointer (some ⟨w.heap.size, 0, none⟩) = Value.pointer (some ⟨q, 0, none⟩) by rw [hq]]
  have hqp : q ≠ p := by omega
  have hpw : w.heap.size ≤ p := by omega
  clear hp hq hqw
  have hH0 := hr
  go_loopw [15] (fun i wr => ∃ k : Nat, k ≤ m ∧ i = .int .i64 k ∧ Below w.heap.size w wr ∧ Box wr q 0 (.slice A m d) ∧ OutIs wr w.heap.size p (freeC os k)) (fun i _ => m - (intOf i).toNat)
  case atStart => exact ⟨0, Nat.zero_le _, rfl, hW, hQ, hP⟩
  case round =>
    obtain ⟨k, hk, rfl, hb, hbq, hout⟩ := hrel
    clear hW hQ hP
    by_cases hlt : k < m
    · have hfl := freeC_length os k
      have eg := EG.out
      have hbq1 := hbq.cell
      go_wp2_with (go_at_fn 33; refine (mgoing1 k 0 w.heap.size q p A m d os _ _ hbq (hr.below hb) hout hb.size hlt (by omega)).mono ?_; rintro e1 w1 ⟨⟨v1, rfl⟩, hout1, hc1⟩)
      go_roundw
      case rel => exact ⟨k + 1, by omega, by go_num, hc1.toBelow hb hb.size (fun k hk => by omega), hbq.keep hc1 hqp, hout1⟩
      case measure => simp [intOf]; omega
    · obtain rfl : k = m := by omega
      have hfl := freeC_length os k
      have hst : moreC os 0 (more.drop 0) (freeC os k) = coresV os more := by rw [List.drop_zero]; unfold coresV; rw [HN.out]
      have HST := Lib.hid hst
      clear hst
      generalize freeC os k = out0 at hfl hout HST
      have hfl2 : out0.length ≤ 64 := by omega
      clear hfl
      go_wp2
      go_loopw [24] (fun v wr => ∃ (i : Nat) (out : List Int), i ≤ n ∧ v = .int .i64 i ∧ Below w.heap.size w wr ∧ Box wr q 0 (.slice A k d) ∧ OutIs wr w.heap.size p out ∧ out.length ≤ 64 + 64 * i ∧ Hid (moreC os i (more.drop i) out = coresV os more)) (fun v _ => n - (intOf v).toNat)
      case atStart => exact ⟨0, out0, Nat.zero_le _, rfl, hb, hbq, hout, by omega, HST⟩
      case round =>
        clear hout hbq hb HST hfl2
        clear out0
        obtain ⟨i, out, hi, rfl, hb, hbq, hout, hlen, HST⟩ := hrel
        by_cases hlt2 : i < n
        · have hix : i < more.length := by rw [HM.out]; exact hlt2
          obtain ⟨bd, rfl⟩ := hr2.some_ (by omega)
          have hcell := (hr2.below hb).cell bd rfl i _ (nums_get .i64 more i hix)
          have hmg : more[i]? = some more[i] := List.getElem?_eq_getElem hix
          obtain ⟨k1, k2⟩ := HK.out more[i] (List.getElem_mem hix)
          generalize more[i] = x at hcell hmg k1 k2
          obtain ⟨x, rfl⟩ : ∃ y : Nat, x = y := ⟨x.toNat, by omega⟩
          have hnx := HST.out
          rw [moreC_drop os more i out x hmg, Int.toNat_natCast] at hnx
          have HNX := Lib.hid hnx
          clear hnx hmg HST
          have hout2 := hout
          obtain ⟨C, l, f, hbp, hrc, hne⟩ := hout2
          have hbp1 := hbp.cell
          have hbq1 := hbq.cell
          have hl : out.length = l := nums_inj_len hrc
          have HL := Lib.hid hl
          obtain ⟨least, hle⟩ : ∃ y, y = l + x := ⟨_, rfl⟩
          have HX : Hid (moreC os (i + 1) (more.drop (i + 1)) (downC os ((i : Int) + 1) least os.length out) = coresV os more) := by show _ = _; rw [hle, ← HL.out]; exact HNX.out
          rw [HN.out] at HX
          have hw1 : IntKind.i64.wrap ((l : Int) + x) = (least : Int) := by rw [hle]; have := IntWalk.i64_in ((l : Int) + x) (by omega); omega
          have hll : l ≤ 64 + 64 * i := by omega
          have hl64 : least ≤ 64 + 64 * (i + 1) := by omega
          have hll2 : l ≤ least := by omega
          clear hle hl HNX
          clear hne hrc hlen hbp
          go_wp2
          go_loopw [11] (fun v wr => ∃ (c : Nat) (z : Int) (o2 : List Int), c ≤ k ∧ v = .int .i64 z ∧ z + 1 = c ∧ Below w.heap.size w wr ∧ Box wr q 0 (.slice A k d) ∧ OutIs wr w.heap.size p o2 ∧ o2.length ≤ least ∧ Hid (downC os ((i : Int) + 1) least c o2 = downC os ((i : Int) + 1) least k out)) (fun v _ => ((intOf v) + 1).toNat)
          case atStart => exact ⟨k, (k : Int) - 1, out, Nat.le_refl _, rfl, by omega, hb, hbq, hout, by rw [HL.out]; exact hll2, rfl⟩
          case round =>
            clear hout hbq hbp1 hbq1 hcell hb hw1
            obtain ⟨c, z, o2, hck, rfl, hz, hb, hbq, hout, hol, HD⟩ := hrel
            have hout2 := hout
            obtain ⟨C2, l2, f2, hbp, hrc, hne⟩ := hout2
            have hbp1 := hbp.cell
            have hbq1 := hbq.cell
            have hl2 : o2.length = l2 := nums_inj_len hrc
            rw [hl2] at hol
            have HL2 := Lib.hid hl2
            clear hne hbp hrc hl2
            have fin : downC os ((i : Int) + 1) least c o2 = o2 → c = 0 ∨ least ≤ l2 → ∃ (i1 : Nat) (out1 : List Int), i1 ≤ n ∧ Value.int .i64 ((i : Int) + 1) = .int .i64 i1 ∧ Below w.heap.size w wr ∧ Box wr q 0 (.slice A k d) ∧ OutIs wr w.heap.size p out1 ∧ out1.length ≤ 64 + 64 * i1 ∧ Hid (moreC os i1 (more.drop i1) out1 = coresV os more) ∧ i1 = i + 1 := by
              intro h1 h2
              refine ⟨i + 1, o2, by omega, by go_num, hb, hbq, hout, by rw [HL2.out]; omega, ?_, rfl⟩
              show _ = _
              rw [← HX.out, ← HD.out, h1]
            have FIN := Lib.hid fin
            clear fin
            by_cases hz0 : c = 0
            · subst hz0
              have hz1 : z < 0 := by omega
              have hz2 := FIN.out rfl (.inl rfl)
              go_wp2
              go_roundw
              case rel => obtain ⟨i1, o1, r1, r2, r3, r4, r5, r6, r7, r8⟩ := hz2; exact ⟨i1, o1, r1, r2, r3, r4, r5, r6, r7⟩
              case measure => simp [intOf]; omega
            · obtain ⟨c, rfl⟩ : ∃ y, c = y + 1 := ⟨c - 1, by omega⟩
              obtain rfl : z = (c : Int) := by omega
              by_cases hll3 : l2 < least
              · have hd := HD.out
                simp only [downC] at hd
                rw [if_pos (by rw [HL2.out]; exact hll3)] at hd
                have HD2 := Lib.hid hd
                clear hd HD
                have eg := EG.out
                have htl := takeC_length os o2 c ((i : Int) + 1)
                rw [HL2.out] at htl
                go_wp2_with (go_at_fn 33; refine (mgoing1 c ((i : Int) + 1) w.heap.size q p A k d os o2 _ hbq (hr.below hb) hout hb.size (by omega) (by rw [HL2.out]; omega)).mono ?_; rintro e1 w1 ⟨⟨v1, rfl⟩, hout1, hc1⟩)
                go_roundw
                case rel => exact ⟨c, (c : Int) - 1, _, by omega, by go_num, by omega, hc1.toBelow hb hb.size (fun k hk => by omega), hbq.keep hc1 hqp, hout1, by omega, HD2⟩
                case measure => simp [intOf]
              · have hst : downC os ((i : Int) + 1) least (c + 1) o2 = o2 := downC_stop _ _ _ _ _ (by rw [HL2.out]; omega)
                have hz2 := FIN.out hst (.inr (by omega))
                clear hst
                go_wp2
                go_roundw
                case rel => obtain ⟨i1, o1, r1, r2, r3, r4, r5, r6, r7, r8⟩ := hz2; exact ⟨i1, o1, r1, r2, r3, r4, r5, r6, r7⟩
                case measure => simp [intOf]; omega
        · obtain rfl : i = n := by omega
          obtain ⟨C, l, f, hbp, hrc, hne⟩ := hout
          have hbp1 := hbp.cell
          have hl : out.length = l := nums_inj_len hrc
          go_wp2
          go_ret
          refine ⟨⟨C, l, f, rfl, ?_, by omega, fun ad e => (hne ad e).2⟩, hb⟩
          have := HST.out
          rw [List.drop_of_length_le (by rw [HM.out]; exact Nat.le_refl _)] at this
          rw [← this]
          exact hrc
end Go.Proofs.Ytjpclnmohemjlaa
