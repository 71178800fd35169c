/- A heap whose keys are lowered. -/
import Derived.Test.YtopikpjagjnbhaaHeapUse
import Derived.Test.YtopikpjagjnbhaaNumSub
namespace Go.Proofs.Ytopikpjagjnbhaa
open Go.RowKit
/-- The keys of some ids, lowered. -/
def lowerK (l : List Nat) (ks : List Int) (z : Int) : List Int := l.foldl (fun (k : List Int) (x : Nat) => k.set x (k.getD x 0 - z)) ks
theorem lowerK_len (z : Int) : ∀ (l : List Nat) (ks : List Int), (lowerK l ks z).length = ks.length
  | [], _ => rfl
  | x :: l, ks => by
    show (lowerK l _ z).length = _
    rw [lowerK_len z l]
    simp
theorem lowerK_get (z : Int) : ∀ (l : List Nat) (ks : List Int), l.Nodup → (∀ x ∈ l, x < ks.length) → ∀ y, (lowerK l ks z).getD y 0 = if y ∈ l then ks.getD y 0 - z else ks.getD y 0
  | [], _, _, _, _ => by simp [lowerK]
  | x :: l, ks, hn, hl, y => by
    show (lowerK l (ks.set x (ks.getD x 0 - z)) z).getD y 0 = _
    have hx := hl x (by simp)
    rw [lowerK_get z l _ (List.nodup_cons.1 hn).2 (fun u hu => by rw [List.length_set]; exact hl u (by simp [hu])) y]
    have hd : (ks.set x (ks.getD x 0 - z)).getD y 0 = if y = x then ks.getD x 0 - z else ks.getD y 0 := by
      rw [List.getD_eq_getElem?_getD, set_get _ _ _ _ hx]
      split
      · rfl
      · rw [List.getD_eq_getElem?_getD]
    rw [hd]
    by_cases e : y = x
    · subst e
      rw [if_neg (List.nodup_cons.1 hn).1]
      simp
    · simp [e]
theorem lowerK_snoc (z : Int) (l : List Nat) (ks : List Int) (x : Nat) : lowerK (l ++ [x]) ks z = (lowerK l ks z).set x ((lowerK l ks z).getD x 0 - z) := by
  unfold lowerK
  rw [List.foldl_append]
  rfl
def lowerV (h : HV) (z : Int) : HV := ⟨h.ids, lowerK h.ids h.ks z, h.pl⟩
theorem lowerV_key {n : Nat} {h : HV} (s : Sd n h) (z : Int) {x : Nat} (hx : x ∈ h.ids) : (lowerV h z).ks.getD x 0 = h.ks.getD x 0 - z := by
  show (lowerK h.ids h.ks z).getD x 0 = _
  rw [lowerK_get z _ _ (nodup_ids s) (fun u hu => by rw [s.klen]; exact has_lt s (has_mem.2 hu)), if_pos hx]
theorem lower_ok {n : Nat} {h : HV} (s : Sd n h) (z : Int) : Sd n (lowerV h z) where
  klen := by show (lowerK _ _ _).length = n; rw [lowerK_len]; exact s.klen
  bij := s.bij
  ord := fun j x y hj hx hy => by
    have h1 := s.ord j x y hj hx hy
    unfold leK at *
    have e1 := lowerV_key s z (List.mem_of_getElem? hx)
    have e2 := lowerV_key s z (List.mem_of_getElem? hy)
    unfold lowerV at e1 e2 ⊢
    simp only at e1 e2 ⊢
    rw [e1, e2]
    omega
/-- The keys fit. -/
def KR (h : HV) : Prop := ∀ x ∈ h.ids, I64 (h.ks.getD x 0)
theorem sub_wrap {x z : Int} (h : I64 (x - z)) : IntKind.i64.wrap (x - z) = x - z := by
  unfold I64 at h
  rw [IntKind.wrap_i64] <;> omega
set_option maxRecDepth 100000 in
set_option maxHeartbeats 4000000 in
/-- Lower, where each key fits. -/
theorem hlowerOk {w : World} {b gk gp base n ck cp : Nat} {iv : Value} {h : HV} (H : Hp w b gk gp base n ck cp iv h) (s : Sd n h) (hn : n ≤ 4096) (h0 : 0 < n) (hk : KR h) (z : Int) (hz : I64 z) (hf : ∀ x ∈ h.ids, I64 (h.ks.getD x 0 - z)) :
    Calls Try.prog 24 #[.pointer (some ⟨b, 0, none⟩), .int .i64 z] w fun e w' => e = .returned (.int .i64 0) ∧ Acts w w' b gk gp base n ck cp iv (lowerV h z) := by
  have HM := Lib.hid (hmade b gp n cp w H.pb.cell h0)
  obtain ⟨A, m, c, hiv, hm, hrd⟩ := own_open H.io
  have hlen := ids_le s
  have HL := Lib.hid hlen
  have HIV := Lib.hid hiv
  have HMm := Lib.hid hm.out
  have HH := Lib.hid H
  have HN := Lib.hid (nodup_ids s)
  have HS := Lib.hid s
  have HZ := Lib.hid hz
  have HK := Lib.hid hk
  have HF := Lib.hid hf
  have k1 := H.ib.cell
  have k2 := H.kw.kb.cell
  rw [hiv] at k1
  have hm4 : m ≤ 4096 := by rw [hm.out]; omega
  have HRD := Lib.hid hrd
  clear hiv hm hrd H s hk hz hf hlen
  go_enter Try.func24, Try.ntmps24
  go_wp2_with (go_at_call 30; (with_reducible refine HM.out.mono ?_); rintro e w1 ⟨rfl, rfl⟩)
  go_loopw [19] (fun i wr => ∃ k : Nat, k ≤ m ∧ i = .int .i64 k ∧ w = wr) (fun i _ => m - (intOf i).toNat)
  case atStart => exact ⟨0, Nat.zero_le _, rfl, rfl⟩
  case round =>
    obtain ⟨k, hkm, rfl, rfl⟩ := hrel
    by_cases hkn : k < m
    · have hkn' : (k : Int) < (m : Int) := by omega
      have hkl : k < h.ids.length := by rw [← HMm.out]; exact hkn
      obtain ⟨ad, rfl⟩ := HRD.out.some_ (by omega)
      have q1 := HRD.out.cell ad rfl k _ (nums_get .i64 (zs h.ids) k (by rw [zs_length]; exact hkl))
      have e1 : (zs h.ids)[k]'(by rw [zs_length]; exact hkl) = ((h.ids[k] : Nat) : Int) := by simp [zs]
      rw [e1] at q1
      have hx : h.ids[k] ∈ h.ids := List.getElem_mem _
      have hxn := has_lt HS.out (has_mem.2 hx)
      have q2 := (rowGet HH.out.kw.ko hxn).1
      have HR := Lib.hid (nsub (h.ks.getD h.ids[k] 0) z (HK.out _ hx) HZ.out w)
      have hy := fit_yes (HF.out _ hx)
      rw [hy.1, hy.2] at HR
      obtain ⟨x, hxx⟩ : ∃ x, x = h.ids[k] := ⟨_, rfl⟩
      rw [← hxx] at q1 q2 hxn HR
      have hxn' : (x : Int) < (n : Int) := by omega
      obtain ⟨y, hyy⟩ : ∃ y, y = h.ks.getD x 0 := ⟨_, rfl⟩
      rw [← hyy] at q2 HR
      clear hy hx e1 hxx hyy
      go_wp2_with (go_at_call 41; (with_reducible refine HR.out.mono ?_); rintro e w1 ⟨rfl, rfl⟩)
      go_roundw
      case rel => exact ⟨k + 1, by omega, by go_num, by first | trivial | rfl⟩
      case measure => simp only [intOf]; omega
    · obtain rfl : m = k := by omega
      go_wp2
      go_loopw [43] (fun i wr => ∃ k : Nat, k ≤ m ∧ i = .int .i64 k ∧ Hid (Hp wr b gk gp base n ck cp iv ⟨h.ids, lowerK (h.ids.take k) h.ks z, h.pl⟩) ∧ Hid (Chg (fun j => j = gk) w wr)) (fun i _ => m - (intOf i).toNat)
      case atStart => exact ⟨0, Nat.zero_le _, rfl, Lib.hid HH.out, Lib.hid (Chg.refl _ _)⟩
      case round =>
        obtain ⟨k, hkm, rfl, HP, HC⟩ := hrel
        clear k1 k2
        have k1 := HP.out.ib.cell
        have k2 := HP.out.kw.kb.cell
        rw [HIV.out] at k1
        by_cases hkn : k < m
        · have hkn' : (k : Int) < (m : Int) := by omega
          have hkl : k < h.ids.length := by rw [← HMm.out]; exact hkn
          obtain ⟨ad, rfl⟩ := HRD.out.some_ (by omega)
          obtain ⟨ho1, ho2⟩ := own_rds' (show wr.ownsRow base 3 1 (.slice (some ad) m c) h.ids.length (nums .i64 (zs h.ids)) by rw [← HIV.out]; exact HP.out.io)
          have q1 := ho2.cell ad rfl k _ (nums_get .i64 (zs h.ids) k (by rw [zs_length]; exact hkl))
          have e1 : (zs h.ids)[k]'(by rw [zs_length]; exact hkl) = ((h.ids[k] : Nat) : Int) := by simp [zs]
          rw [e1] at q1
          have hx : h.ids[k] ∈ h.ids := List.getElem_mem _
          have hxn := has_lt HS.out (has_mem.2 hx)
          obtain ⟨q2, q3, q4⟩ := rowGet HP.out.kw.ko hxn
          have hnt : h.ids[k] ∉ h.ids.take k := by
            intro hh
            obtain ⟨j, hj⟩ := List.mem_iff_getElem?.1 hh
            obtain ⟨hj1, hj2⟩ := take_get _ _ _ _ hj
            have := HS.out.bij.inj hj2 (List.getElem?_eq_getElem hkl)
            omega
          have hval : (lowerK (h.ids.take k) h.ks z).getD h.ids[k] 0 = h.ks.getD h.ids[k] 0 := by
            rw [lowerK_get z _ _ (HN.out.sublist (List.take_sublist _ _)) (fun u hu => by rw [HS.out.klen]; exact has_lt HS.out (has_mem.2 (List.mem_of_mem_take hu))), if_neg hnt]
          have hwr := sub_wrap (HF.out _ hx)
          have q5 := q4 (h.ks.getD h.ids[k] 0 - z)
          have e2 : lowerK (h.ids.take (k + 1)) h.ks z = (lowerK (h.ids.take k) h.ks z).set h.ids[k] (h.ks.getD h.ids[k] 0 - z) := by
            rw [List.take_succ_eq_append_getElem hkl, lowerK_snoc, hval]
          dsimp only at q2 q3 q5
          rw [hval] at q2
          rw [← e2] at q5
          obtain ⟨x, hxx⟩ : ∃ x, x = h.ids[k] := ⟨_, rfl⟩
          rw [← hxx] at q1 q2 q3 q5 hxn hwr
          have hxn' : (x : Int) < (n : Int) := by omega
          obtain ⟨y, hyy⟩ : ∃ y, y = h.ks.getD x 0 := ⟨_, rfl⟩
          rw [← hyy] at q2 q5 hwr
          have c1 : Chg (fun j => j = gk) wr (wr.setCell ⟨gk, x, none⟩ (.int .i64 (y - z))) := (Chg.refl _ _).setCell _ _ _ rfl
          have n5 := HP.out.n5
          have n6 := HP.out.n6
          have HQ : Hid (Hp (wr.setCell ⟨gk, x, none⟩ (.int .i64 (y - z))) b gk gp base n ck cp iv ⟨h.ids, lowerK (h.ids.take (k + 1)) h.ks z, h.pl⟩) :=
            Lib.hid ⟨HP.out.ib.keep c1 (fun e => n6 e.symm), c1.own HP.out.io (fun j e e2 => (HP.out.ni j e).2.1 e2), ⟨HP.out.kw.kb.keep c1 (fun e => n6 e.symm), q5⟩, HP.out.pb.keep c1 (fun e => n6 e.symm), c1.own HP.out.po (fun j e e2 => by cases e; exact n5 e2), HP.out.n2, n5, n6, HP.out.ni⟩
          have HC2 := Lib.hid (HC.out.trans c1)
          clear hx e1 hxx hyy hnt hval e2 q4 q5 ho1 ho2 c1 n5 n6
          go_wp2
          go_roundw
          case rel => exact ⟨k + 1, by omega, by go_num, HQ, HC2⟩
          case measure => simp only [intOf]; omega
        · obtain rfl : m = k := by omega
          go_wp2
          go_ret
          refine ⟨rfl, ⟨iv, ?_, .inl rfl⟩, HC.out.mono (fun j _ e => .inr (.inl e))⟩
          have := HP.out
          rw [HMm.out, List.take_length] at this
          exact this
set_option maxRecDepth 100000 in
set_option maxHeartbeats 4000000 in
/-- Lower, where a key does not fit. -/
theorem hlowerNo {w : World} {b gk gp base n ck cp : Nat} {iv : Value} {h : HV} (H : Hp w b gk gp base n ck cp iv h) (s : Sd n h) (hn : n ≤ 4096) (h0 : 0 < n) (hk : KR h) (z : Int) (hz : I64 z) (hf : ¬ ∀ x ∈ h.ids, I64 (h.ks.getD x 0 - z)) :
    Calls Try.prog 24 #[.pointer (some ⟨b, 0, none⟩), .int .i64 z] w fun e w' => e = .returned (.int .i64 8) ∧ w = w' := by
  have HM := Lib.hid (hmade b gp n cp w H.pb.cell h0)
  obtain ⟨A, m, c, hiv, hm, hrd⟩ := own_open H.io
  have hlen := ids_le s
  have HMm := Lib.hid hm.out
  have HH := Lib.hid H
  have HS := Lib.hid s
  have HZ := Lib.hid hz
  have HK := Lib.hid hk
  have HF := Lib.hid hf
  have k1 := H.ib.cell
  have k2 := H.kw.kb.cell
  rw [hiv] at k1
  have hm4 : m ≤ 4096 := by rw [hm.out]; omega
  have HRD := Lib.hid hrd
  clear hiv hm hrd H s hk hz hf hlen
  go_enter Try.func24, Try.ntmps24
  go_wp2_with (go_at_call 30; (with_reducible refine HM.out.mono ?_); rintro e w1 ⟨rfl, rfl⟩)
  go_loopw [19] (fun i wr => ∃ k : Nat, k ≤ m ∧ i = .int .i64 k ∧ Hid (∀ j x, j < k → h.ids[j]? = some x → I64 (h.ks.getD x 0 - z)) ∧ w = wr) (fun i _ => m - (intOf i).toNat)
  case atStart => exact ⟨0, Nat.zero_le _, rfl, Lib.hid (fun j x hj => absurd hj (by omega)), rfl⟩
  case round =>
    obtain ⟨k, hkm, rfl, HJ, rfl⟩ := hrel
    by_cases hkn : k < m
    · have hkn' : (k : Int) < (m : Int) := by omega
      have hkl : k < h.ids.length := by rw [← HMm.out]; exact hkn
      obtain ⟨ad, rfl⟩ := HRD.out.some_ (by omega)
      have q1 := HRD.out.cell ad rfl k _ (nums_get .i64 (zs h.ids) k (by rw [zs_length]; exact hkl))
      have e1 : (zs h.ids)[k]'(by rw [zs_length]; exact hkl) = ((h.ids[k] : Nat) : Int) := by simp [zs]
      rw [e1] at q1
      have hx : h.ids[k] ∈ h.ids := List.getElem_mem _
      have hg : h.ids[k]? = some h.ids[k] := List.getElem?_eq_getElem hkl
      have hxn := has_lt HS.out (has_mem.2 hx)
      have q2 := (rowGet HH.out.kw.ko hxn).1
      have HR := Lib.hid (nsub (h.ks.getD h.ids[k] 0) z (HK.out _ hx) HZ.out w)
      obtain ⟨x, hxx⟩ : ∃ x, x = h.ids[k] := ⟨_, rfl⟩
      rw [← hxx] at q1 q2 hxn HR hg
      have hxn' : (x : Int) < (n : Int) := by omega
      obtain ⟨y, hyy⟩ : ∃ y, y = h.ks.getD x 0 := ⟨_, rfl⟩
      rw [← hyy] at q2 HR
      by_cases hI : I64 (y - z)
      · have hy := fit_yes hI
        rw [hy.1, hy.2] at HR
        have HJ2 := Lib.hid (show ∀ j u, j < k + 1 → h.ids[j]? = some u → I64 (h.ks.getD u 0 - z) from fun j u hj hu => by
          by_cases e : j = k
          · rw [e, hg] at hu
            cases hu
            rw [← hyy]
            exact hI
          · exact HJ.out j u (by omega) hu)
        clear hy hx e1 hxx hyy hg hI
        go_wp2_with (go_at_call 41; (with_reducible refine HR.out.mono ?_); rintro e w1 ⟨rfl, rfl⟩)
        go_roundw
        case rel => exact ⟨k + 1, by omega, by go_num, HJ2, by first | trivial | rfl⟩
        case measure => simp only [intOf]; omega
      · have hy := fit_no hI
        rw [hy.1, hy.2] at HR
        clear hy hx e1 hxx hyy hg hI
        go_wp2_with (go_at_call 41; (with_reducible refine HR.out.mono ?_); rintro e w1 ⟨rfl, rfl⟩)
        go_ret
        exact ⟨rfl, rfl⟩
    · exfalso
      obtain rfl : m = k := by omega
      refine HF.out (fun x hx => ?_)
      obtain ⟨j, hj⟩ := List.mem_iff_getElem?.1 hx
      exact HJ.out j x (by have := get_lt hj; rw [HMm.out]; exact this) hj
end Go.Proofs.Ytopikpjagjnbhaa
