/- token's reader: name and put: their contracts. -/
import Derived.Test.YtknfpggiigncpaaGreatDoorProg
import Derived.Below
import Derived.Deep.Draws
import Derived.Deep.AppendLies
import Derived.Maps.AppendAt
import Derived.OwnWalk
import Derived.Laws.BytesArg
import Derived.Laws.MakeOwn
import Derived.Laws.OwnMore
import Derived.Deep.OwnRows
import Derived.Tactics
import Derived.Lib.ConvBytes
import Derived.Laws.Slices
import Derived.WalkKit
import Derived.KernelRfl
import Derived.RowKit3
import Derived.Deep.LoopGhost
import Derived.Deep.QuietTactic
import Derived.BigQuiet
import Derived.WideLaws
import Derived.Deep.DeepCutAuto
import Derived.Deep.CutBlock
import Derived.Deep.RegionHeld3
import Derived.Laws.Rows
import Derived.Lib.AppendStr
import Derived.ArgAppend
import Derived.Laws.IdiomCopy
import Derived.OrdersHeld
import Derived.Laws.BitsLemmas
import Derived.RowKit
import Derived.Test.YtknfpggiigncpaaGreatDoorWWords
import Derived.Test.YtknfpggiigncpaaGreatDoorWLast
import Derived.Test.YtknfpggiigncpaaGreatDoorWTab
import Derived.Test.YtknfpggiigncpaaGreatDoorWMore
import Derived.Laws.StructEq
import Derived.Test.YtknfpggiigncpaaGreatDoorXTok1
set_option maxHeartbeats 8000000
set_option maxRecDepth 100000
set_option linter.unusedVariables false
set_option linter.unusedSimpArgs false
section
namespace Go.Proofs.YtknfpggiigncpaaGreatDoor.D
open Go.RowKit YtknfpggiigncpaaGreatDoorW.PrintWords YtknfpggiigncpaaGreatDoorW.PrintLast YtknfpggiigncpaaGreatDoorW.PrintMore
attribute [local go_sem] max2_int min2_int max_two min_two max_three min_three max_four min_four
end Go.Proofs.YtknfpggiigncpaaGreatDoor.D
end
section
namespace Go.Proofs.YtknfpggiigncpaaGreatDoor.D
open Go.RowKit YtknfpggiigncpaaGreatDoorW.PrintWords YtknfpggiigncpaaGreatDoorW.PrintLast YtknfpggiigncpaaGreatDoorW.PrintMore
attribute [local go_sem] max2_int min2_int max_two min_two max_three min_three max_four min_four
/-! ### token_letter: function 149 -/
def token_letter.f (a0 : Int) : Option (Bool) := if a0 ≥ 97 then (if a0 ≤ 122 then (some true) else (if a0 ≥ 65 then (if a0 ≤ 90 then (some true) else (some (a0 == 95))) else (some (a0 == 95)))) else (if a0 ≥ 65 then (if a0 ≤ 90 then (some true) else (some (a0 == 95))) else (some (a0 == 95)))
theorem token_letter.calls (a0 : Int) (r : Bool) (w : World) (h : token_letter.f a0 = some r) :
  Calls Tryz.prog 149 #[.int .u8 a0] w fun e w' => e = .returned (.bool r) ∧ Drawn0 w w' := by
 have H : (if a0 ≥ 97 then (if a0 ≤ 122 then (some true) else (if a0 ≥ 65 then (if a0 ≤ 90 then (some true) else (some (a0 == 95))) else (some (a0 == 95)))) else (if a0 ≥ 65 then (if a0 ≤ 90 then (some true) else (some (a0 == 95))) else (some (a0 == 95)))) = some r := h
 clear h
 by_cases c2 : a0 ≥ 97
 ·
  rw [if_pos c2] at H
  have c2b0 : decide (97 ≤ a0) = true := decide_eq_true c2
  clear c2
  by_cases c3 : a0 ≤ 122
  ·
   rw [if_pos c3] at H
   have c3b0 : decide (a0 ≤ 122) = true := decide_eq_true c3
   clear c3
   obtain rfl := Option.some.inj H
   go_enter Tryz.func149, Tryz.ntmps149
   go_wp2
   go_ret
   exact d0
  ·
   rw [if_neg c3] at H
   have c3b0 : decide (a0 ≤ 122) = false := decide_eq_false c3
   clear c3
   by_cases c4 : a0 ≥ 65
   ·
    rw [if_pos c4] at H
    have c4b0 : decide (65 ≤ a0) = true := decide_eq_true c4
    clear c4
    by_cases c5 : a0 ≤ 90
    ·
     rw [if_pos c5] at H
     have c5b0 : decide (a0 ≤ 90) = true := decide_eq_true c5
     clear c5
     obtain rfl := Option.some.inj H
     go_enter Tryz.func149, Tryz.ntmps149
     go_wp2
     go_ret
     exact d0
    ·
     rw [if_neg c5] at H
     have c5b0 : decide (a0 ≤ 90) = false := decide_eq_false c5
     clear c5
     obtain rfl := Option.some.inj H
     go_enter Tryz.func149, Tryz.ntmps149
     go_wp2
     go_ret
     exact d0
   ·
    rw [if_neg c4] at H
    have c4b0 : decide (65 ≤ a0) = false := decide_eq_false c4
    clear c4
    obtain rfl := Option.some.inj H
    go_enter Tryz.func149, Tryz.ntmps149
    go_wp2
    go_ret
    exact d0
 ·
  rw [if_neg c2] at H
  have c2b0 : decide (97 ≤ a0) = false := decide_eq_false c2
  clear c2
  by_cases c6 : a0 ≥ 65
  ·
   rw [if_pos c6] at H
   have c6b0 : decide (65 ≤ a0) = true := decide_eq_true c6
   clear c6
   by_cases c7 : a0 ≤ 90
   ·
    rw [if_pos c7] at H
    have c7b0 : decide (a0 ≤ 90) = true := decide_eq_true c7
    clear c7
    obtain rfl := Option.some.inj H
    go_enter Tryz.func149, Tryz.ntmps149
    go_wp2
    go_ret
    exact d0
   ·
    rw [if_neg c7] at H
    have c7b0 : decide (a0 ≤ 90) = false := decide_eq_false c7
    clear c7
    obtain rfl := Option.some.inj H
    go_enter Tryz.func149, Tryz.ntmps149
    go_wp2
    go_ret
    exact d0
  ·
   rw [if_neg c6] at H
   have c6b0 : decide (65 ≤ a0) = false := decide_eq_false c6
   clear c6
   obtain rfl := Option.some.inj H
   go_enter Tryz.func149, Tryz.ntmps149
   go_wp2
   go_ret
   exact d0
end Go.Proofs.YtknfpggiigncpaaGreatDoor.D
end
section
namespace Go.Proofs.YtknfpggiigncpaaGreatDoor.C
open Go.RowKit P A YtknfpggiigncpaaGreatDoorW.PrintWords YtknfpggiigncpaaGreatDoorW.PrintLast YtknfpggiigncpaaGreatDoorW.PrintMore
def isLet (b : UInt8) : Bool := (decide (97 ≤ b.toNat) && decide (b.toNat ≤ 122)) || (decide (65 ≤ b.toNat) && decide (b.toNat ≤ 90)) || b.toNat == 95
def isDig (b : UInt8) : Bool := decide (48 ≤ b.toNat) && decide (b.toNat ≤ 57)
def isSgn (b : UInt8) : Bool := b == 45 || b == 46 || b == 58
def isNm (b : UInt8) : Bool := isLet b || isDig b || isSgn b
theorem letter_all : ∀ n : Nat, n < 256 → D.token_letter.f (n : Int) = some (isLet (UInt8.ofNat n)) := by decide +kernel
theorem letter_f (b : UInt8) : D.token_letter.f (b.toNat : Int) = some (isLet b) := by
 have := letter_all b.toNat b.toNat_lt
 rw [show UInt8.ofNat b.toNat = b by simp] at this
 exact this
theorem letter_any (b : UInt8) (r : Bool) (hr : isLet b = r) (w : World) : Calls Tryz.prog 149 #[.int .u8 (b.toNat : Int)] w fun e w' => e = .returned (.bool r) ∧ ∃ n, w' = w.drewN n := by
 refine (D.token_letter.calls _ r w (by rw [letter_f, hr])).mono ?_
 rintro e w' ⟨he, hd⟩
 exact ⟨he, hd.out⟩
def nmLen : List UInt8 → Nat
 | [] => 0
 | b :: r => if isLet b = true then 1 + (r.takeWhile isNm).length else 0
theorem nmLen_le (l : List UInt8) : nmLen l ≤ l.length := by
 cases l with
 | nil => exact Nat.le_refl _
 | cons b r =>
  have := (List.takeWhile_sublist (l := r) isNm).length_le
  simp only [nmLen, List.length_cons]
  split <;> omega
theorem tw_stop (r : List UInt8) (f : UInt8 → Bool) : ∀ (k : Nat) (h : k < r.length), k ≤ (r.takeWhile f).length → (f (r[k]'h) = true ↔ k < (r.takeWhile f).length) := by
 induction r with
 | nil => intro k h; simp at h
 | cons b r ih =>
  intro k h hk
  by_cases hb : f b = true
  ·
   rw [List.takeWhile_cons_of_pos hb] at hk ⊢
   cases k with
   | zero => simp [hb]
   | succ k =>
    simp only [List.length_cons] at hk ⊢
    rw [List.getElem_cons_succ, ih k (by simpa using h) (by omega)]
    omega
  ·
   rw [List.takeWhile_cons_of_neg hb] at hk ⊢
   simp only [List.length_nil, Nat.le_zero] at hk
   subst hk
   simp [hb]
theorem nm_stop (l : List UInt8) (k : Nat) (h : k < l.length) (hk : k ≤ nmLen l) : ((isLet (l[k]'h) || (decide (0 < k) && (isDig (l[k]'h) || isSgn (l[k]'h)))) = true ↔ k < nmLen l) := by
 cases l with
 | nil => simp at h
 | cons b r =>
  simp only [nmLen] at hk ⊢
  by_cases hb : isLet b = true
  ·
   rw [if_pos hb] at hk ⊢
   cases k with
   | zero =>
    rw [List.getElem_cons_zero, hb]
    simp
    omega
   | succ k =>
    rw [List.getElem_cons_succ]
    have := tw_stop r isNm k (by simpa using h) (by omega)
    have e2 : (isLet (r[k]'(by simpa using h)) || (isDig (r[k]'(by simpa using h)) || isSgn (r[k]'(by simpa using h)))) = isNm (r[k]'(by simpa using h)) := by
     unfold isNm
     rw [Bool.or_assoc]
    rw [decide_eq_true (show 0 < k + 1 by omega), Bool.true_and, e2, this]
    omega
  ·
   rw [if_neg hb] at hk ⊢
   obtain rfl : k = 0 := by omega
   rw [List.getElem_cons_zero]
   simp [hb]
def nameT (s : ByteArray) (p : Nat) : Except (Nat × Int) (List UInt8 × Nat) :=
 if nmLen (rs s p) = 0 ∨ 100 < nmLen (rs s p) then .error (p, 21) else .ok ((rs s p).take (nmLen (rs s p)), p + nmLen (rs s p))
def nameR (s : ByteArray) (p : Nat) : Except (Nat × Int) (Value × Nat) := (nameT s p).map fun x => (strV x.1, x.2)
theorem sgn_index (b : UInt8) : (decide (Lib.indexByte [45, 46, 58] b < 0)) = !isSgn b := by
 have h : ∀ n : Nat, n < 256 → (decide (Lib.indexByte [45, 46, 58] (UInt8.ofNat n) < 0)) = !isSgn (UInt8.ofNat n) := by decide +kernel
 have := h b.toNat b.toNat_lt
 rw [show UInt8.ofNat b.toNat = b by simp] at this
 exact this
theorem sgn_any (b : UInt8) (r : Bool) (hr : isSgn b = r) : ∃ z : Int, decide (z < 0) = !r ∧ ∀ w, Calls Tryz.prog 66 #[.string ⟨#[45, 46, 58]⟩, .int .u8 (b.toNat : Int)] w fun e w' => e = .returned (.int .i64 z) ∧ w' = w := by
 refine ⟨Lib.indexByte [45, 46, 58] b, by rw [sgn_index, hr], fun w => ?_⟩
 have := Tryz.strings_IndexByte ⟨#[45, 46, 58]⟩ (b.toNat : Int) w
 rw [show ((b.toNat : Int)).toNat.toUInt8 = b by simp] at this
 exact this
theorem name_any (g : Nat) (s : ByteArray) (p : Nat) (ov : Value) (w : World) (h : Rd g s p ov w) (hp : p ≤ s.size) (hs : s.size ≤ 1048576) :
  Calls Tryz.prog 127 #[.pointer (some ⟨g, 0, none⟩)] w (Res g s ov w (nameR s p)) := by
 have hlt := h.lt
 have H := Lib.hid h
 clear h
 have hxs : (s.extract p s.size).size = s.size - p := by simp
 have hxl := rs_ext s p
 have Hr := fun w h => rest_any g s p ov w h hp hs
 have hN := nmLen_le (rs s p)
 rw [rs_len] at hN
 have hst := nm_stop (rs s p)
 have hR : nameR s p = if nmLen (rs s p) = 0 ∨ 100 < nmLen (rs s p) then .error (p, 21) else .ok (.string (s.extract p (p + nmLen (rs s p))), p + nmLen (rs s p)) := by
  unfold nameR nameT
  split
  ·
   rfl
  ·
   have e : strV ((rs s p).take (nmLen (rs s p))) = .string (s.extract p (p + nmLen (rs s p))) := by
    unfold strV
    congr 1
    apply ByteArray.ext
    apply Array.toList_inj.1
    rw [Lib.extract_data, Nat.add_sub_cancel_left]
    rfl
   rw [← e]
   rfl
 rw [hR]
 clear hR
 rw [← hxl] at hst hN ⊢
 generalize hNN : nmLen (s.extract p s.size).data.toList = N at *
 generalize hx : s.extract p s.size = x at *
 clear hNN hx hxl
 have Hst := Lib.hid hst
 have HX := Lib.hid hxs
 obtain ⟨R, hR⟩ : ∃ R : Except (Nat × Int) (Value × Nat), (if N = 0 ∨ 100 < N then Except.error (p, 21) else Except.ok (Value.string (s.extract p (p + N)), p + N)) = R := ⟨_, rfl⟩
 rw [hR]
 have HR := Lib.hid hR
 have hxm : x.size ≤ 1048576 := by omega
 clear hst hxs hR
 go_enter Tryz.func127, Tryz.ntmps127
 go_wp2_with fail
 refine (Hr _ H.out).mono ?_
 rintro e w1 ⟨rfl, n1, rfl⟩
 go_wp2_with fail
 go_loopg [3] (x.size + 1) (fun kq v3 wr => ∃ k : Nat, v3 = .int .i64 k ∧ k ≤ N ∧ Aside0 (kq + k = x.size + 1) ∧ Drawn0 w wr)
 case atStart => exact ⟨0, rfl, Nat.zero_le _, ⟨rfl⟩, ⟨_, rfl⟩⟩
 case round =>
  obtain ⟨k, rfl, hk, HK, ⟨n, rfl⟩⟩ := hrel
  have hkx : k ≤ x.size := by rw [HX.out]; omega
  by_cases hlt2 : k < x.size
  ·
   have hl : k < x.data.toList.length := by rw [← Lib.size_eq]; exact hlt2
   have hst := Hst.out k hl hk
   have hix : x.data.toList[k]'hl = x[k]'hlt2 := rfl
   rw [hix] at hst
   clear hix
   cases hL : isLet (x[k]'hlt2) with
   | true =>
    have hkN : k < N := hst.1 (by rw [hL]; rfl)
    clear hst
    go_wp2_with fail
    refine (letter_any _ true hL _).mono ?_
    rintro e w1 ⟨rfl, n2, rfl⟩
    go_wp2_with fail
    go_roundg (x.size - k)
    case measure => have := HK.out; omega
    case rel => exact ⟨k + 1, by go_num, by omega, ⟨by omega⟩, ⟨_, rfl⟩⟩
   | false =>
    rw [hL] at hst
    by_cases hk0 : k = 0
    ·
     have hkN : N = k := by
      have : ¬ k < N := by rw [← hst]; simp [hk0]
      omega
     have hz0 : ((k : Int) == 0) = true := by simp [hk0]
     clear hst
     have hN0 : N = 0 := by omega
     clear hk0
     have h1 := H.out
     have c1 := h1.at_ 1
     simp at c1
     clear h1
     go_wp2_with fail
     refine (letter_any _ false hL _).mono ?_
     rintro e w1 ⟨rfl, n2, rfl⟩
     have hR : Except.error (p, 21) = R := by rw [← HR.out, if_pos (by omega)]
     subst hR
     go_wp2_with fail
     refine (fail_any p _).mono ?_
     rintro e w1 ⟨he, rfl⟩
     obtain rfl : e = _ := he
     go_wp2_with fail
     exact ⟨rfl, rfl, pw_below_drewN (Below.refl _ _) _⟩
    ·
     have hz0 : ((k : Int) == 0) = false := by simp [hk0]
     have hk1 : 0 < k := by omega
     rw [decide_eq_true hk1, Bool.true_and, Bool.false_or] at hst
     clear hk0 hk1
     have hsgn := sgn_any (x[k]'hlt2)
     cases hD : isDig (x[k]'hlt2) with
     | true =>
      have hkN : k < N := hst.1 (by rw [hD]; rfl)
      unfold isDig at hD
      simp only [Bool.and_eq_true, decide_eq_true_eq] at hD
      have g1 : decide ((48 : Int) ≤ ((x[k]'hlt2).toNat : Int)) = true := by simp; omega
      have g2 : decide (((x[k]'hlt2).toNat : Int) ≤ 57) = true := by simp; omega
      clear hst hD hsgn
      go_wp2_with fail
      refine (letter_any _ false hL _).mono ?_
      rintro e w1 ⟨rfl, n2, rfl⟩
      go_wp2_with fail
      go_roundg (x.size - k)
      case measure => have := HK.out; omega
      case rel => exact ⟨k + 1, by go_num, by omega, ⟨by omega⟩, ⟨_, rfl⟩⟩
     | false =>
      rw [hD, Bool.false_or] at hst
      have hD2 : ¬ (48 ≤ (x[k]'hlt2).toNat ∧ (x[k]'hlt2).toNat ≤ 57) := by
       intro h
       unfold isDig at hD
       rw [decide_eq_true h.1, decide_eq_true h.2] at hD
       cases hD
      clear hD
      cases hS : isSgn (x[k]'hlt2) with
      | true =>
       have hkN : k < N := hst.1 hS
       have hsg := hsgn true hS
       clear hst hsgn hS
       obtain ⟨z, hzz, hsg⟩ := hsg
       by_cases h48 : 48 ≤ (x[k]'hlt2).toNat
       ·
        have g1 : decide ((48 : Int) ≤ ((x[k]'hlt2).toNat : Int)) = true := by simp; omega
        have g2 : decide (((x[k]'hlt2).toNat : Int) ≤ 57) = false := by simp; omega
        clear h48 hD2
        go_wp2_with fail
        refine (letter_any _ false hL _).mono ?_
        rintro e w1 ⟨rfl, n2, rfl⟩
        go_wp2_with fail
        refine (hsg _).mono ?_
        rintro e w1 ⟨rfl, rfl⟩
        go_wp2_with fail
        go_roundg (x.size - k)
        case measure => have := HK.out; omega
        case rel => exact ⟨k + 1, by go_num, by omega, ⟨by omega⟩, ⟨_, rfl⟩⟩
       ·
        have g1 : decide ((48 : Int) ≤ ((x[k]'hlt2).toNat : Int)) = false := by simp; omega
        clear h48 hD2
        go_wp2_with fail
        refine (letter_any _ false hL _).mono ?_
        rintro e w1 ⟨rfl, n2, rfl⟩
        go_wp2_with fail
        refine (hsg _).mono ?_
        rintro e w1 ⟨rfl, rfl⟩
        go_wp2_with fail
        go_roundg (x.size - k)
        case measure => have := HK.out; omega
        case rel => exact ⟨k + 1, by go_num, by omega, ⟨by omega⟩, ⟨_, rfl⟩⟩
      | false =>
       have hkN : N = k := by
        have : ¬ k < N := by rw [← hst, hS]; simp
        omega
       have hsg := hsgn false hS
       clear hst hsgn hS
       obtain ⟨z, hzz, hsg⟩ := hsg
       by_cases h48 : 48 ≤ (x[k]'hlt2).toNat
       ·
        have g1 : decide ((48 : Int) ≤ ((x[k]'hlt2).toNat : Int)) = true := by simp; omega
        have g2 : decide (((x[k]'hlt2).toNat : Int) ≤ 57) = false := by simp; omega
        clear h48 hD2
        have hk0 : ¬ k = 0 := by simpa using hz0
        go_wp2_with fail
        refine (letter_any _ false hL _).mono ?_
        rintro e w1 ⟨rfl, n2, rfl⟩
        go_wp2_with fail
        refine (hsg _).mono ?_
        rintro e w1 ⟨rfl, rfl⟩
        by_cases hbad : 100 < k
        ·
         have hR : Except.error (p, 21) = R := by rw [← HR.out, if_pos (by omega)]
         subst hR
         have h1 := H.out
         have c1 := h1.at_ 1
         simp at c1
         clear h1
         have hz2 : decide ((100 : Int) < k) = true := by simp; omega
         clear hk0 hbad hkN
         go_wp2_with fail
         refine (fail_any p _).mono ?_
         rintro e w1 ⟨he, rfl⟩
         obtain rfl : e = _ := he
         go_wp2_with fail
         exact ⟨rfl, rfl, pw_below_drewN (Below.refl _ _) _⟩
        ·
         have hR : Except.ok (Value.string (s.extract p (p + k)), p + k) = R := by rw [← HR.out, if_neg (by omega), hkN]
         subst hR
         have h1 := H.out
         have c1 := h1.at_ 1
         have f1 := h1.free 1
         simp at c1
         have hz2 : decide ((100 : Int) < k) = false := by simp; omega
         have hz3 : ((p : Int) + k) - k = p := by omega
         have hpk : p + k ≤ s.size := by omega
         clear hbad hk0
         have h2 := (h1.drewN (n + n2)).put (p + k)
         have d0 := h2.at_ 0
         have d1 := h2.at_ 1
         simp at d0 d1
         have hsl : ∀ w : World, (Instr.slice 9 (.string s) (some (.int .i64 (p : Int))) (some (.int .i64 ((p : Int) + (k : Int)))) none).run Tryz.prog w = .ok (.string (s.extract p (p + k))) w := fun w => slice_two s (p : Int) ((p : Int) + k) p (p + k) rfl (by omega) (by omega) (by omega) w
         clear h1
         have H2 := Lib.hid h2
         clear h2 HX HR Hst Hr hkN
         go_wp2_with fail
         go_quiet (fail)
         go_wp2
         go_ret
         exact ⟨rfl, H2.out.drewN _, ((((Ch.refl g w).drewN _).set 1 _).drewN _)⟩
       ·
        have g1 : decide ((48 : Int) ≤ ((x[k]'hlt2).toNat : Int)) = false := by simp; omega
        clear h48 hD2
        have hk0 : ¬ k = 0 := by simpa using hz0
        go_wp2_with fail
        refine (letter_any _ false hL _).mono ?_
        rintro e w1 ⟨rfl, n2, rfl⟩
        go_wp2_with fail
        refine (hsg _).mono ?_
        rintro e w1 ⟨rfl, rfl⟩
        by_cases hbad : 100 < k
        ·
         have hR : Except.error (p, 21) = R := by rw [← HR.out, if_pos (by omega)]
         subst hR
         have h1 := H.out
         have c1 := h1.at_ 1
         simp at c1
         clear h1
         have hz2 : decide ((100 : Int) < k) = true := by simp; omega
         clear hk0 hbad hkN
         go_wp2_with fail
         refine (fail_any p _).mono ?_
         rintro e w1 ⟨he, rfl⟩
         obtain rfl : e = _ := he
         go_wp2_with fail
         exact ⟨rfl, rfl, pw_below_drewN (Below.refl _ _) _⟩
        ·
         have hR : Except.ok (Value.string (s.extract p (p + k)), p + k) = R := by rw [← HR.out, if_neg (by omega), hkN]
         subst hR
         have h1 := H.out
         have c1 := h1.at_ 1
         have f1 := h1.free 1
         simp at c1
         have hz2 : decide ((100 : Int) < k) = false := by simp; omega
         have hz3 : ((p : Int) + k) - k = p := by omega
         have hpk : p + k ≤ s.size := by omega
         clear hbad hk0
         have h2 := (h1.drewN (n + n2)).put (p + k)
         have d0 := h2.at_ 0
         have d1 := h2.at_ 1
         simp at d0 d1
         have hsl : ∀ w : World, (Instr.slice 9 (.string s) (some (.int .i64 (p : Int))) (some (.int .i64 ((p : Int) + (k : Int)))) none).run Tryz.prog w = .ok (.string (s.extract p (p + k))) w := fun w => slice_two s (p : Int) ((p : Int) + k) p (p + k) rfl (by omega) (by omega) (by omega) w
         clear h1
         have H2 := Lib.hid h2
         clear h2 HX HR Hst Hr hkN
         go_wp2_with fail
         go_quiet (fail)
         go_wp2
         go_ret
         exact ⟨rfl, H2.out.drewN _, ((((Ch.refl g w).drewN _).set 1 _).drewN _)⟩
  ·
   have hkN : N = k := by have := HX.out; omega
   have hge : ¬ k < x.size := hlt2
   clear hlt2
   by_cases hbad : k = 0 ∨ 100 < k
   ·
    have hR : Except.error (p, 21) = R := by rw [← HR.out, if_pos (by omega)]
    subst hR
    have h1 := H.out
    have c1 := h1.at_ 1
    simp at c1
    clear h1
    by_cases hk0 : k = 0
    ·
     have hz : ((k : Int) == 0) = true := by simp [hk0]
     clear hk0 hbad
     go_wp2_with fail
     refine (fail_any p _).mono ?_
     rintro e w1 ⟨he, rfl⟩
     obtain rfl : e = _ := he
     go_wp2_with fail
     exact ⟨rfl, rfl, pw_below_drewN (Below.refl _ _) _⟩
    ·
     have hz : ((k : Int) == 0) = false := by simp [hk0]
     have hz2 : decide ((100 : Int) < k) = true := by simp; omega
     clear hk0 hbad
     go_wp2_with fail
     refine (fail_any p _).mono ?_
     rintro e w1 ⟨he, rfl⟩
     obtain rfl : e = _ := he
     go_wp2_with fail
     exact ⟨rfl, rfl, pw_below_drewN (Below.refl _ _) _⟩
   ·
    have hR : Except.ok (Value.string (s.extract p (p + k)), p + k) = R := by rw [← HR.out, if_neg (by omega), hkN]
    subst hR
    have h1 := H.out
    have c1 := h1.at_ 1
    have f1 := h1.free 1
    simp at c1
    have hz : ((k : Int) == 0) = false := by simp; omega
    have hz2 : decide ((100 : Int) < k) = false := by simp; omega
    have hz3 : ((p : Int) + k) - k = p := by omega
    have hpk : p + k ≤ s.size := by omega
    clear hbad
    have h2 := (h1.drewN n).put (p + k)
    have d0 := h2.at_ 0
    have d1 := h2.at_ 1
    simp at d0 d1
    have hsl : ∀ w : World, (Instr.slice 9 (.string s) (some (.int .i64 (p : Int))) (some (.int .i64 ((p : Int) + (k : Int)))) none).run Tryz.prog w = .ok (.string (s.extract p (p + k))) w := fun w => slice_two s (p : Int) ((p : Int) + k) p (p + k) rfl (by omega) (by omega) (by omega) w
    clear h1
    have H2 := Lib.hid h2
    clear h2
    clear HX HR Hst Hr
    go_wp2_with fail
    go_quiet (fail)
    go_wp2
    go_ret
    exact ⟨rfl, H2.out.drewN _, ((((Ch.refl g w).drewN _).set 1 _).drewN _)⟩
end Go.Proofs.YtknfpggiigncpaaGreatDoor.C
end
