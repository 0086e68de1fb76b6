/- slices.IndexFunc and ContainsFunc over parts, at out's function values: by hand. -/
import Derived.Test.YtknfpggiigncpaaGreatDoorOt5
import Derived.Test.YtknfpggiigncpaaGreatDoorEx7
import Derived.Test.YtknfpggiigncpaaGreatDoorXTok3
set_option linter.unusedVariables false
set_option linter.unusedSimpArgs false
namespace Go.Proofs.YtknfpggiigncpaaGreatDoor.E
open Go.RowKit Go.Proofs.YtknfpggiigncpaaGreatDoor.P Go.Proofs.YtknfpggiigncpaaGreatDoorW.PrintLast Go.Proofs.YtknfpggiigncpaaGreatDoorW.PrintMore
open Go.Proofs.YtknfpggiigncpaaGreatDoorW.PrintWords

def firstI (p : S24 → Bool) : List S24 → Nat → Int
  | [], _ => -1
  | x :: l, i => if p x = true then (i : Int) else firstI p l (i + 1)
theorem firstI_any (p : S24 → Bool) : ∀ (l : List S24) (i : Nat), decide (0 ≤ firstI p l i) = l.any p
  | [], _ => rfl
  | x :: l, i => by
    unfold firstI
    rw [List.any_cons]
    by_cases h : p x = true
    · rw [if_pos h, h, Bool.true_or]; exact decide_eq_true (by omega)
    · rw [if_neg h, Bool.eq_false_iff.2 h, Bool.false_or]; exact firstI_any p l (i + 1)
set_option maxHeartbeats 4000000 in
set_option maxRecDepth 100000 in
theorem idx84_any (p : S24 → Bool) (av : Value) (acc : List S24) (w : World) (A : Option Addr) (c : Nat) (hv : av = .slice A acc.length c) (hC : k24.C w A acc.length acc) (hl : acc.length ≤ 1048576)
    (hp : ∀ (x : S24) (A2 : Option Addr) (c2 : Nat) (wr : World), x ∈ acc → Below w.heap.size w wr → k24.C wr A2 x.f2.length x.f2 → x.f2.length ≤ c2 →
      Calls Tryz.prog 84 #[.agg #[.string x.f0, .string x.f1, .slice A2 x.f2.length c2]] wr fun e w' => e = .returned (.bool (p x)) ∧ Below wr.heap.size wr w') :
    Calls Tryz.prog 83 #[av, .func (.func 84) #[] #[]] w fun e w' => e = .returned (.int .i64 (firstI p acc 0)) ∧ Below w.heap.size w w' := by
  subst hv
  have HC := Lib.hid hC
  have HP := Lib.hid hp
  clear hC hp
  go_enter Tryz.func83, Tryz.ntmps83
  go_wp2_with fail
  go_loopg [8] (acc.length + 1) (fun kq v8 wr => ∃ i : Nat, v8 = .int .i64 i ∧ i ≤ acc.length ∧ Aside0 (kq + i = acc.length + 1) ∧ Aside0 (firstI p acc 0 = firstI p (acc.drop i) i) ∧ Aside0 (Below w.heap.size w wr))
  case atStart => exact ⟨0, rfl, Nat.zero_le _, ⟨rfl⟩, ⟨rfl⟩, ⟨Below.refl _ _⟩⟩
  case round =>
    obtain ⟨i, rfl, hi, HK, HM, HBl⟩ := hrel
    by_cases hlt : i < acc.length
    · have hCw : k24.C wr A acc.length acc := Kd.C_below HC.out HBl.out
      obtain ⟨ad, A2, c2, e1, k0, k1, k2, l2, g2⟩ := at_T24 hCw (i : Int) (by omega) (by omega)
      subst e1
      simp at k0 k1 k2
      have hm : rd_T24 acc (i : Int) ∈ acc := by rw [rd_get acc i hlt]; exact List.getElem_mem hlt
      have hd : acc.drop i = rd_T24 acc (i : Int) :: acc.drop (i + 1) := by rw [List.drop_eq_getElem_cons hlt, rd_get acc i hlt]
      have HD := Lib.hid hd
      have HX := Lib.hid (HP.out _ A2 c2 wr hm HBl.out g2 l2)
      clear hCw hd hm g2 l2
      generalize rd_T24 acc (i : Int) = el at *
      cases hb : p el with
      | true =>
        go_wp2_with fail
        refine (HX.out).mono ?_
        rintro e w1 ⟨rfl, hb1⟩
        rw [hb]
        go_wp2_with fail
        go_ret
        refine ⟨?_, HBl.out.trans (hb1.mono HBl.out.size)⟩
        rw [HM.out, HD.out]
        simp [firstI, hb]
      | false =>
        go_wp2_with fail
        refine (HX.out).mono ?_
        rintro e w1 ⟨rfl, hb1⟩
        rw [hb]
        have hB1 := HBl.out.trans (hb1.mono HBl.out.size)
        clear hb1
        go_wp2_with fail
        go_roundg (acc.length - i)
        case measure => have := HK.out; omega
        case rel =>
          refine ⟨i + 1, by go_num, by omega, ⟨by omega⟩, ⟨?_⟩, ⟨hB1⟩⟩
          rw [HM.out, HD.out]
          simp [firstI, hb]
    · go_wp2_with fail
      go_ret
      refine ⟨?_, HBl.out⟩
      rw [HM.out, List.drop_of_length_le (by omega)]
      rfl
set_option maxHeartbeats 4000000 in
set_option maxRecDepth 100000 in
theorem idx51_any (p : S24 → Bool) (av : Value) (acc : List S24) (w : World) (A : Option Addr) (c : Nat) (hv : av = .slice A acc.length c) (hC : k24.C w A acc.length acc) (hl : acc.length ≤ 1048576)
    (hp : ∀ (x : S24) (A2 : Option Addr) (c2 : Nat) (wr : World), x ∈ acc → Below w.heap.size w wr → k24.C wr A2 x.f2.length x.f2 → x.f2.length ≤ c2 →
      Calls Tryz.prog 51 #[.agg #[.string x.f0, .string x.f1, .slice A2 x.f2.length c2]] wr fun e w' => e = .returned (.bool (p x)) ∧ Below wr.heap.size wr w') :
    Calls Tryz.prog 83 #[av, .func (.func 51) #[] #[]] w fun e w' => e = .returned (.int .i64 (firstI p acc 0)) ∧ Below w.heap.size w w' := by
  subst hv
  have HC := Lib.hid hC
  have HP := Lib.hid hp
  clear hC hp
  go_enter Tryz.func83, Tryz.ntmps83
  go_wp2_with fail
  go_loopg [8] (acc.length + 1) (fun kq v8 wr => ∃ i : Nat, v8 = .int .i64 i ∧ i ≤ acc.length ∧ Aside0 (kq + i = acc.length + 1) ∧ Aside0 (firstI p acc 0 = firstI p (acc.drop i) i) ∧ Aside0 (Below w.heap.size w wr))
  case atStart => exact ⟨0, rfl, Nat.zero_le _, ⟨rfl⟩, ⟨rfl⟩, ⟨Below.refl _ _⟩⟩
  case round =>
    obtain ⟨i, rfl, hi, HK, HM, HBl⟩ := hrel
    by_cases hlt : i < acc.length
    · have hCw : k24.C wr A acc.length acc := Kd.C_below HC.out HBl.out
      obtain ⟨ad, A2, c2, e1, k0, k1, k2, l2, g2⟩ := at_T24 hCw (i : Int) (by omega) (by omega)
      subst e1
      simp at k0 k1 k2
      have hm : rd_T24 acc (i : Int) ∈ acc := by rw [rd_get acc i hlt]; exact List.getElem_mem hlt
      have hd : acc.drop i = rd_T24 acc (i : Int) :: acc.drop (i + 1) := by rw [List.drop_eq_getElem_cons hlt, rd_get acc i hlt]
      have HD := Lib.hid hd
      have HX := Lib.hid (HP.out _ A2 c2 wr hm HBl.out g2 l2)
      clear hCw hd hm g2 l2
      generalize rd_T24 acc (i : Int) = el at *
      cases hb : p el with
      | true =>
        go_wp2_with fail
        refine (HX.out).mono ?_
        rintro e w1 ⟨rfl, hb1⟩
        rw [hb]
        go_wp2_with fail
        go_ret
        refine ⟨?_, HBl.out.trans (hb1.mono HBl.out.size)⟩
        rw [HM.out, HD.out]
        simp [firstI, hb]
      | false =>
        go_wp2_with fail
        refine (HX.out).mono ?_
        rintro e w1 ⟨rfl, hb1⟩
        rw [hb]
        have hB1 := HBl.out.trans (hb1.mono HBl.out.size)
        clear hb1
        go_wp2_with fail
        go_roundg (acc.length - i)
        case measure => have := HK.out; omega
        case rel =>
          refine ⟨i + 1, by go_num, by omega, ⟨by omega⟩, ⟨?_⟩, ⟨hB1⟩⟩
          rw [HM.out, HD.out]
          simp [firstI, hb]
    · go_wp2_with fail
      go_ret
      refine ⟨?_, HBl.out⟩
      rw [HM.out, List.drop_of_length_le (by omega)]
      rfl
set_option maxHeartbeats 4000000 in
set_option maxRecDepth 100000 in
theorem idx87_any (p : S24 → Bool) (ga : Nat) (av : Value) (acc : List S24) (w : World) (A : Option Addr) (c : Nat) (hv : av = .slice A acc.length c) (hC : k24.C w A acc.length acc) (hl : acc.length ≤ 1048576)
    (hp : ∀ (x : S24) (A2 : Option Addr) (c2 : Nat) (wr : World), x ∈ acc → Below w.heap.size w wr → k24.C wr A2 x.f2.length x.f2 → x.f2.length ≤ c2 →
      Calls Tryz.prog 87 #[.agg #[.string x.f0, .string x.f1, .slice A2 x.f2.length c2], .pointer (some ⟨ga, 0, none⟩)] wr fun e w' => e = .returned (.bool (p x)) ∧ Below wr.heap.size wr w') :
    Calls Tryz.prog 83 #[av, .func (.func 87) #[] #[.pointer (some ⟨ga, 0, none⟩)]] w fun e w' => e = .returned (.int .i64 (firstI p acc 0)) ∧ Below w.heap.size w w' := by
  subst hv
  have HC := Lib.hid hC
  have HP := Lib.hid hp
  clear hC hp
  go_enter Tryz.func83, Tryz.ntmps83
  go_wp2_with fail
  go_loopg [8] (acc.length + 1) (fun kq v8 wr => ∃ i : Nat, v8 = .int .i64 i ∧ i ≤ acc.length ∧ Aside0 (kq + i = acc.length + 1) ∧ Aside0 (firstI p acc 0 = firstI p (acc.drop i) i) ∧ Aside0 (Below w.heap.size w wr))
  case atStart => exact ⟨0, rfl, Nat.zero_le _, ⟨rfl⟩, ⟨rfl⟩, ⟨Below.refl _ _⟩⟩
  case round =>
    obtain ⟨i, rfl, hi, HK, HM, HBl⟩ := hrel
    by_cases hlt : i < acc.length
    · have hCw : k24.C wr A acc.length acc := Kd.C_below HC.out HBl.out
      obtain ⟨ad, A2, c2, e1, k0, k1, k2, l2, g2⟩ := at_T24 hCw (i : Int) (by omega) (by omega)
      subst e1
      simp at k0 k1 k2
      have hm : rd_T24 acc (i : Int) ∈ acc := by rw [rd_get acc i hlt]; exact List.getElem_mem hlt
      have hd : acc.drop i = rd_T24 acc (i : Int) :: acc.drop (i + 1) := by rw [List.drop_eq_getElem_cons hlt, rd_get acc i hlt]
      have HD := Lib.hid hd
      have HX := Lib.hid (HP.out _ A2 c2 wr hm HBl.out g2 l2)
      clear hCw hd hm g2 l2
      generalize rd_T24 acc (i : Int) = el at *
      cases hb : p el with
      | true =>
        go_wp2_with fail
        refine (HX.out).mono ?_
        rintro e w1 ⟨rfl, hb1⟩
        rw [hb]
        go_wp2_with fail
        go_ret
        refine ⟨?_, HBl.out.trans (hb1.mono HBl.out.size)⟩
        rw [HM.out, HD.out]
        simp [firstI, hb]
      | false =>
        go_wp2_with fail
        refine (HX.out).mono ?_
        rintro e w1 ⟨rfl, hb1⟩
        rw [hb]
        have hB1 := HBl.out.trans (hb1.mono HBl.out.size)
        clear hb1
        go_wp2_with fail
        go_roundg (acc.length - i)
        case measure => have := HK.out; omega
        case rel =>
          refine ⟨i + 1, by go_num, by omega, ⟨by omega⟩, ⟨?_⟩, ⟨hB1⟩⟩
          rw [HM.out, HD.out]
          simp [firstI, hb]
    · go_wp2_with fail
      go_ret
      refine ⟨?_, HBl.out⟩
      rw [HM.out, List.drop_of_length_le (by omega)]
      rfl
end Go.Proofs.YtknfpggiigncpaaGreatDoor.E
