/- Parts of the proof. -/
import Derived.Test.YtknfpggiigncpaaGreatDoorGlob
import Derived.Test.YtknfpggiigncpaaGreatDoorXRune
import Derived.Test.YtknfpggiigncpaaGreatDoorEx0
import Derived.Test.YtknfpggiigncpaaGreatDoorXUnesc
import Derived.Test.YtknfpggiigncpaaGreatDoorBx0
set_option maxHeartbeats 8000000
set_option maxRecDepth 100000
set_option linter.unusedVariables false
set_option linter.unusedSimpArgs false
namespace Go.Proofs.YtknfpggiigncpaaGreatDoor.B
open P
open Go.RowKit YtknfpggiigncpaaGreatDoorW.PrintWords YtknfpggiigncpaaGreatDoorW.PrintLast YtknfpggiigncpaaGreatDoorW.PrintMore
attribute [local go_sem] max2_int min2_int max_two min_two max_three min_three max_four min_four
/-! ### remitterlaw08_wakes: function 26 -/
/-! ### remitterref05_size: function 99 -/
mutual
def remitterref05_size.j2 : Nat → ByteArray → Int → Int → Int → Option (Int)
 | 0, _, _, _, _ => none
 | k + 1, x0, x4, x5, x6 => if (x0.size : Int) < x4 then (some 1) else (remitterref05_size.l0 k x0 x4 x5 x6 1)
def remitterref05_size.l0 : Nat → ByteArray → Int → Int → Int → Int → Option (Int)
 | 0, _, _, _, _, _ => none
 | k + 1, x0, x4, x5, x6, x7 => if x7 < x4 then (if 0 ≤ x7 then (if x7 < (x0.size : Int) then (if (Go.bits .and .u8 (bt x0 x7) 192) = 128 then (remitterref05_size.l0 k x0 x4 x5 (Go.bits .or .i32 (wrap32 (x6 * 64)) (wrap32 (Go.bits .and .u8 (bt x0 x7) 63))) (wrap64 (x7 + 1))) else (some 1)) else (none)) else (none)) else (if x6 < x5 then (some 1) else (if x6 > 1114111 then (some 1) else (if x6 ≥ 55296 then (if x6 ≤ 57343 then (some 1) else (some x4)) else (some x4))))
def remitterref05_size.j0 : Nat → ByteArray → Int → Bool → Option (Int)
 | 0, _, _, _ => none
 | k + 1, x0, x3, x12 => if x12 = true then (remitterref05_size.j2 k x0 4 65536 (wrap32 (Go.bits .and .u8 x3 7))) else (if x3 ≥ 224 then (remitterref05_size.j1 k x0 x3 (decide (x3 ≤ 239))) else (remitterref05_size.j1 k x0 x3 false))
def remitterref05_size.j1 : Nat → ByteArray → Int → Bool → Option (Int)
 | 0, _, _, _ => none
 | k + 1, x0, x3, x22 => if x22 = true then (remitterref05_size.j2 k x0 3 2048 (wrap32 (Go.bits .and .u8 x3 15))) else (if x3 ≥ 194 then (if x3 ≤ 223 then (remitterref05_size.j2 k x0 2 128 (wrap32 (Go.bits .and .u8 x3 31))) else (some 1)) else (some 1))
end
def remitterref05_size.f (k : Nat) (a0 : ByteArray) : Option (Int) := if 0 < (a0.size : Int) then (if (bt a0 0) ≥ 240 then (remitterref05_size.j0 k a0 (bt a0 0) (decide ((bt a0 0) ≤ 244))) else (remitterref05_size.j0 k a0 (bt a0 0) false)) else (none)
theorem remitterref05_size.calls (k : Nat) (a0 : ByteArray) (r : Int) (w : World) (h : remitterref05_size.f k a0 = some r) :
  Calls Tryz.prog 99 #[.string a0] w fun e w' => e = .returned (.int .i64 r) ∧ Drawn0 w w' := by
 have H : (if 0 < (a0.size : Int) then (if (bt a0 0) ≥ 240 then (remitterref05_size.j0 k a0 (bt a0 0) (decide ((bt a0 0) ≤ 244))) else (remitterref05_size.j0 k a0 (bt a0 0) false)) else (none)) = some r := h
 clear h
 by_cases c2 : 0 < (a0.size : Int)
 ·
  rw [if_pos c2] at H
  have c2b0 : decide (0 < (a0.size : Int)) = true := decide_eq_true c2
  have c2b1 : decide (0 < a0.size) = true := decide_eq_true (by omega)
  clear c2
  have HC4 := Aside0.mk H
  clear H
  have p3 : 0 ≤ (0 : Int) := (by omega)
  have q3 : 0 < a0.size := (by have : (0 : Int) < (a0.size : Int) := of_decide_eq_true (by first | (with_reducible assumption) | assumption); omega)
  have hx3 : ∀ h : 0 < a0.size, ((a0[0]'h).toNat : Int) = bt a0 0 := bt_at a0 0
  clear p3
  have qi3 : (0 < (a0.size : Int)) = True := eq_true (of_decide_eq_true (by first | (with_reducible assumption) | assumption))
  replace q3 := eq_true q3
  go_enter Tryz.func99, Tryz.ntmps99
  go_upto_block 0 with (fail)
  go_cut [4, 5, 6] (fun v4 v5 v6 wc => ∃ (kq : Nat) (x4_3 : Int) (x5_3 : Int) (x6_3 : Int), v4 = .int .i64 x4_3 ∧ v5 = .int .i32 x5_3 ∧ v6 = .int .i32 x6_3 ∧ Aside0 (remitterref05_size.j2 kq a0 x4_3 x5_3 x6_3 = some r) ∧ Aside0 (kq ≤ k) ∧ Drawn0 w wc)
  case first =>
   have H := HC4.out
   clear HC4
   have HC5 := Aside0.mk H
   clear H
   go_upto_region 4 with (fail)
   go_cut [12] (fun v12 wc => ∃ (kq : Nat) (x12_4 : Bool), v12 = .bool x12_4 ∧ Aside0 (remitterref05_size.j0 kq a0 (bt a0 0) x12_4 = some r) ∧ Aside0 (kq ≤ k) ∧ Drawn0 w wc)
   case first =>
    have H := HC5.out
    clear HC5
    by_cases c6 : (bt a0 0) ≥ 240
    ·
     rw [if_pos c6] at H
     have c6b0 : decide (240 ≤ (bt a0 0)) = true := decide_eq_true c6
     clear c6
     (first | rw [c6b0] | (simp only [i64_w, i32_w]; rw [c6b0]) | skip)
     have H' := Aside0.mk H
     clear H
     go_wp2
     go_meet
     case rel => exact ⟨_, (decide ((bt a0 0) ≤ 244)), rf3, H', ⟨by first | omega | exact Nat.le_refl _⟩, dr0⟩
    ·
     rw [if_neg c6] at H
     have c6b0 : decide (240 ≤ (bt a0 0)) = false := decide_eq_false c6
     clear c6
     (first | rw [c6b0] | (simp only [i64_w, i32_w]; rw [c6b0]) | skip)
     have H' := Aside0.mk H
     clear H
     go_wp2
     go_meet
     case rel => exact ⟨_, (false), rf3, H', ⟨by first | omega | exact Nat.le_refl _⟩, dr0⟩
   case rest =>
    clear HC5
    try clear c2
    try clear c2b0
    try clear c2b1
    try clear p3
    try clear q3
    try clear hx3
    try clear qi3
    try clear c6
    try clear c6b0
    try clear p3
    try clear q3
    obtain ⟨kq, x12_4, rfl, HA, HJ4, ⟨mc4, rfl⟩⟩ := hcut
    cases kq with
    | zero => exact absurd HA.out (by simp [remitterref05_size.j0])
    | succ kj4 =>
     have H := HA.out
     clear HA
     simp only [remitterref05_size.j0] at H
     by_cases c7 : x12_4 = true
     ·
      subst c7
      have H1 : (remitterref05_size.j2 kj4 a0 4 65536 (wrap32 (Go.bits .and .u8 (bt a0 0) 7))) = some r := by rw [if_pos rfl] at H; exact H
      clear H
      have H := H1
      clear H1
      have H' := Aside0.mk H
      clear H
      go_wp2
      go_meet
      case rel => exact ⟨_, (4), (65536), (wrap32 (Go.bits .and .u8 (bt a0 0) 7)), rf3, rf3, rf3, H', ⟨by have := HJ4.out; first | omega | exact Nat.le_refl _⟩, dr0⟩
     ·
      replace c7 := Bool.eq_false_iff.mpr c7
      subst c7
      have H1 : (if (bt a0 0) ≥ 224 then (remitterref05_size.j1 kj4 a0 (bt a0 0) (decide ((bt a0 0) ≤ 239))) else (remitterref05_size.j1 kj4 a0 (bt a0 0) false)) = some r := by rw [if_neg (show ¬ (false = true) by decide)] at H; exact H
      clear H
      have H := H1
      clear H1
      have HC8 := Aside0.mk H
      clear H
      go_upto_region 8 with (fail)
      go_cut [22] (fun v22 wc => ∃ (kq : Nat) (x22_7 : Bool), v22 = .bool x22_7 ∧ Aside0 (remitterref05_size.j1 kq a0 (bt a0 0) x22_7 = some r) ∧ Aside0 (kq ≤ kj4) ∧ Drawn0 w wc)
      case first =>
       have H := HC8.out
       clear HC8
       by_cases c9 : (bt a0 0) ≥ 224
       ·
        rw [if_pos c9] at H
        have c9b0 : decide (224 ≤ (bt a0 0)) = true := decide_eq_true c9
        clear c9
        (first | rw [c9b0] | (simp only [i64_w, i32_w]; rw [c9b0]) | skip)
        have H' := Aside0.mk H
        clear H
        go_wp2
        go_meet
        case rel => exact ⟨_, (decide ((bt a0 0) ≤ 239)), rf3, H', ⟨by have := HJ4.out; first | omega | exact Nat.le_refl _⟩, dr0⟩
       ·
        rw [if_neg c9] at H
        have c9b0 : decide (224 ≤ (bt a0 0)) = false := decide_eq_false c9
        clear c9
        (first | rw [c9b0] | (simp only [i64_w, i32_w]; rw [c9b0]) | skip)
        have H' := Aside0.mk H
        clear H
        go_wp2
        go_meet
        case rel => exact ⟨_, (false), rf3, H', ⟨by have := HJ4.out; first | omega | exact Nat.le_refl _⟩, dr0⟩
      case rest =>
       clear HC8
       try clear c2
       try clear c2b0
       try clear c2b1
       try clear p3
       try clear q3
       try clear hx3
       try clear qi3
       try clear c4
       try clear c6
       try clear c6b0
       try clear c7
       try clear c9
       try clear c9b0
       try clear p3
       try clear q3
       obtain ⟨kq, x22_7, rfl, HA, HJ7, ⟨mc7, rfl⟩⟩ := hcut
       cases kq with
       | zero => exact absurd HA.out (by simp [remitterref05_size.j1])
       | succ kj7 =>
        have H := HA.out
        clear HA
        simp only [remitterref05_size.j1] at H
        by_cases c10 : x22_7 = true
        ·
         subst c10
         have H1 : (remitterref05_size.j2 kj7 a0 3 2048 (wrap32 (Go.bits .and .u8 (bt a0 0) 15))) = some r := by rw [if_pos rfl] at H; exact H
         clear H
         have H := H1
         clear H1
         have H' := Aside0.mk H
         clear H
         go_wp2
         go_meet
         case rel => exact ⟨_, (3), (2048), (wrap32 (Go.bits .and .u8 (bt a0 0) 15)), rf3, rf3, rf3, H', ⟨by have := HJ4.out; have := HJ7.out; first | omega | exact Nat.le_refl _⟩, dr0⟩
        ·
         replace c10 := Bool.eq_false_iff.mpr c10
         subst c10
         have H1 : (if (bt a0 0) ≥ 194 then (if (bt a0 0) ≤ 223 then (remitterref05_size.j2 kj7 a0 2 128 (wrap32 (Go.bits .and .u8 (bt a0 0) 31))) else (some 1)) else (some 1)) = some r := by rw [if_neg (show ¬ (false = true) by decide)] at H; exact H
         clear H
         have H := H1
         clear H1
         by_cases c11 : (bt a0 0) ≥ 194
         ·
          rw [if_pos c11] at H
          have c11b0 : decide (194 ≤ (bt a0 0)) = true := decide_eq_true c11
          clear c11
          by_cases c12 : (bt a0 0) ≤ 223
          ·
           rw [if_pos c12] at H
           have c12b0 : decide ((bt a0 0) ≤ 223) = true := decide_eq_true c12
           clear c12
           have H' := Aside0.mk H
           clear H
           go_wp2
           go_meet
           case rel => exact ⟨_, (2), (128), (wrap32 (Go.bits .and .u8 (bt a0 0) 31)), rf3, rf3, rf3, H', ⟨by have := HJ4.out; have := HJ7.out; first | omega | exact Nat.le_refl _⟩, dr0⟩
          ·
           rw [if_neg c12] at H
           have c12b0 : decide ((bt a0 0) ≤ 223) = false := decide_eq_false c12
           clear c12
           obtain rfl := Option.some.inj H
           go_wp2
           go_ret
           exact d0
         ·
          rw [if_neg c11] at H
          have c11b0 : decide (194 ≤ (bt a0 0)) = false := decide_eq_false c11
          clear c11
          obtain rfl := Option.some.inj H
          go_wp2
          go_ret
          exact d0
  case rest =>
   clear HC4
   try clear c2
   try clear c2b0
   try clear c2b1
   try clear p3
   try clear q3
   try clear hx3
   try clear qi3
   try clear c4
   try clear c6
   try clear c6b0
   try clear c7
   try clear c9
   try clear c9b0
   try clear c10
   try clear c11
   try clear c11b0
   try clear c12
   try clear c12b0
   try clear p3
   try clear q3
   obtain ⟨kq, x4_3, x5_3, x6_3, rfl, rfl, rfl, HA, HJ3, ⟨mc3, rfl⟩⟩ := hcut
   cases kq with
   | zero => exact absurd HA.out (by simp [remitterref05_size.j2])
   | succ kj3 =>
    have H := HA.out
    clear HA
    simp only [remitterref05_size.j2] at H
    by_cases c13 : (a0.size : Int) < x4_3
    ·
     rw [if_pos c13] at H
     have c13b0 : decide ((a0.size : Int) < x4_3) = true := decide_eq_true c13
     clear c13
     obtain rfl := Option.some.inj H
     go_wp2
     go_ret
     exact d0
    ·
     rw [if_neg c13] at H
     have c13b0 : decide ((a0.size : Int) < x4_3) = false := decide_eq_false c13
     clear c13
     have H' := Aside0.mk H
     clear H
     go_wp2
     go_loopg [6, 7] kj3 (fun kq v6 v7 w' => ∃ (x6_2 : Int) (x7_2 : Int), v6 = .int .i32 x6_2 ∧ v7 = .int .i64 x7_2 ∧ Aside0 (remitterref05_size.l0 kq a0 x4_3 x5_3 x6_2 x7_2 = some r) ∧ Aside0 (kq ≤ kj3) ∧ Drawn0 w w')
     case atStart => exact ⟨(x6_3), (1), rf3, rf3, H', ⟨Nat.le_refl _⟩, dr0⟩
     case round =>
      clear H'
      try clear c2
      try clear c2b0
      try clear c2b1
      try clear c3
      try clear p3
      try clear q3
      try clear hx3
      try clear qi3
      try clear c4
      try clear c6
      try clear c6b0
      try clear c7
      try clear c9
      try clear c9b0
      try clear c10
      try clear c11
      try clear c11b0
      try clear c12
      try clear c12b0
      try clear c13
      try clear c13b0
      try clear p3
      try clear q3
      obtain ⟨x6_2, x7_2, rfl, rfl, HA, HK2, ⟨m2, rfl⟩⟩ := hrel
      cases gk with
      | zero => exact absurd HA.out (by simp [remitterref05_size.l0])
      | succ k2 =>
       have H := HA.out
       clear HA
       simp only [remitterref05_size.l0] at H
       by_cases c14 : x7_2 < x4_3
       ·
        rw [if_pos c14] at H
        have c14b0 : decide (x7_2 < x4_3) = true := decide_eq_true c14
        clear c14
        by_cases c15 : 0 ≤ x7_2
        ·
         rw [if_pos c15] at H
         have c15b0 : decide (0 ≤ x7_2) = true := decide_eq_true c15
         clear c15
         by_cases c16 : x7_2 < (a0.size : Int)
         ·
          rw [if_pos c16] at H
          have c16b0 : decide (x7_2 < (a0.size : Int)) = true := decide_eq_true c16
          clear c16
          by_cases c18 : (Go.bits .and .u8 (bt a0 x7_2) 192) = 128
          ·
           rw [if_pos c18] at H
           have c18b0 : ((Go.bits .and .u8 (bt a0 x7_2) 192) == 128) = true := beq_iff_eq.mpr c18
           have c18b1 : ((Go.bits .and .u8 (bt a0 x7_2) 192) != 128) = false := bne_eq_false_iff_eq.mpr c18
           clear c18
           have H' := Aside0.mk H
           clear H
           have p17 : 0 ≤ (x7_2 : Int) := of_decide_eq_true (by first | (with_reducible assumption) | assumption)
           have q17 : x7_2 < (a0.size : Int) := of_decide_eq_true (by first | (with_reducible assumption) | assumption)
           have hx17 := bt_at a0 x7_2
           replace p17 := eq_true p17
           replace q17 := eq_true q17
           have p19 : 0 ≤ (x7_2 : Int) := of_decide_eq_true (by first | (with_reducible assumption) | assumption)
           have q19 : x7_2 < (a0.size : Int) := of_decide_eq_true (by first | (with_reducible assumption) | assumption)
           have hx19 := bt_at a0 x7_2
           replace p19 := eq_true p19
           replace q19 := eq_true q19
           go_wp2
           go_roundg k2
           case measure => have := HJ3.out; have := HK2.out; omega
           case rel => exact ⟨(Go.bits .or .i32 (wrap32 (x6_2 * 64)) (wrap32 (Go.bits .and .u8 (bt a0 x7_2) 63))), (wrap64 (x7_2 + 1)), rf3, rf3, H', ⟨by have := HJ3.out; have := HK2.out; omega⟩, dr0⟩
          ·
           rw [if_neg c18] at H
           have c18b0 : ((Go.bits .and .u8 (bt a0 x7_2) 192) == 128) = false := beq_eq_false_iff_ne.mpr c18
           have c18b1 : ((Go.bits .and .u8 (bt a0 x7_2) 192) != 128) = true := bne_iff_ne.mpr c18
           obtain rfl := Option.some.inj H
           have p17 : 0 ≤ (x7_2 : Int) := of_decide_eq_true (by first | (with_reducible assumption) | assumption)
           have q17 : x7_2 < (a0.size : Int) := of_decide_eq_true (by first | (with_reducible assumption) | assumption)
           have hx17 := bt_at a0 x7_2
           replace p17 := eq_true p17
           replace q17 := eq_true q17
           go_wp2
           go_ret
           exact d0
         ·
          rw [if_neg c16] at H
          exact absurd H (by simp)
        ·
         rw [if_neg c15] at H
         exact absurd H (by simp)
       ·
        rw [if_neg c14] at H
        have c14b0 : decide (x7_2 < x4_3) = false := decide_eq_false c14
        clear c14
        by_cases c20 : x6_2 < x5_3
        ·
         rw [if_pos c20] at H
         have c20b0 : decide (x6_2 < x5_3) = true := decide_eq_true c20
         clear c20
         obtain rfl := Option.some.inj H
         go_wp2
         go_ret
         exact d0
        ·
         rw [if_neg c20] at H
         have c20b0 : decide (x6_2 < x5_3) = false := decide_eq_false c20
         clear c20
         by_cases c21 : x6_2 > 1114111
         ·
          rw [if_pos c21] at H
          have c21b0 : decide (1114111 < x6_2) = true := decide_eq_true c21
          clear c21
          obtain rfl := Option.some.inj H
          go_wp2
          go_ret
          exact d0
         ·
          rw [if_neg c21] at H
          have c21b0 : decide (1114111 < x6_2) = false := decide_eq_false c21
          clear c21
          by_cases c22 : x6_2 ≥ 55296
          ·
           rw [if_pos c22] at H
           have c22b0 : decide (55296 ≤ x6_2) = true := decide_eq_true c22
           clear c22
           by_cases c23 : x6_2 ≤ 57343
           ·
            rw [if_pos c23] at H
            have c23b0 : decide (x6_2 ≤ 57343) = true := decide_eq_true c23
            clear c23
            obtain rfl := Option.some.inj H
            go_wp2
            go_ret
            exact d0
           ·
            rw [if_neg c23] at H
            have c23b0 : decide (x6_2 ≤ 57343) = false := decide_eq_false c23
            clear c23
            obtain rfl := Option.some.inj H
            go_wp2
            go_ret
            exact d0
          ·
           rw [if_neg c22] at H
           have c22b0 : decide (55296 ≤ x6_2) = false := decide_eq_false c22
           clear c22
           obtain rfl := Option.some.inj H
           go_wp2
           go_ret
           exact d0
 ·
  rw [if_neg c2] at H
  exact absurd H (by simp)
/-! ### remitterref05_Chars: function 63 -/
def remitterref05_Chars.l0 : Nat → ByteArray → List ByteArray → Int → Option (List ByteArray)
 | 0, _, _, _ => none
 | k + 1, x0, x3, x4 => if x4 < (x0.size : Int) then (if 0 ≤ x4 then (if x4 ≤ (x0.size : Int) then ((remitterref05_size.f k (x0.extract (x4 : Int).toNat x0.size)).bind fun t112 => (if x4 ≤ (wrap64 (x4 + t112)) then (if (wrap64 (x4 + t112)) ≤ (x0.size : Int) then (if x3.length < 8796093022208 then (remitterref05_Chars.l0 k x0 (x3 ++ [x0.extract (x4 : Int).toNat ((wrap64 (x4 + t112)) : Int).toNat]) (wrap64 (x4 + t112))) else (none)) else (none)) else (none))) else (none)) else (none)) else (some x3)
def remitterref05_Chars.f (k : Nat) (a0 : ByteArray) : Option (List ByteArray) := remitterref05_Chars.l0 k a0 ([] : List ByteArray) 0
theorem remitterref05_Chars.calls (k : Nat) (a0 : ByteArray) (r : List ByteArray) (w : World) (h : remitterref05_Chars.f k a0 = some r) :
  Calls Tryz.prog 63 #[.string a0] w fun e w' => ∃ v0_ : Value, e = .returned (v0_) ∧ Kd.R Kd.string 9 w' w.heap.size (fun _ => True) v0_ r ∧ Below w.heap.size w w' := by
 have HB := Aside0.mk (Below.refl w.heap.size w)
 have H : (remitterref05_Chars.l0 k a0 ([] : List ByteArray) 0) = some r := h
 clear h
 have H' := Aside0.mk H
 clear H
 go_enter Tryz.func63, Tryz.ntmps63
 go_wp2
 go_loopg [3, 4] k (fun kq v3 v4 w' => ∃ (x3_1 : List ByteArray) (x4_1 : Int), v4 = .int .i64 x4_1 ∧ Aside0 (remitterref05_Chars.l0 kq a0 x3_1 x4_1 = some r) ∧ Aside0 (kq ≤ k) ∧ Aside0 (Kd.R Kd.string 9 w' w.heap.size (fun _ => True) v3 x3_1) ∧ Aside0 (Below w.heap.size w w'))
 case atStart => exact ⟨(([] : List ByteArray)), (0), rf3, H', ⟨Nat.le_refl _⟩, ⟨by first | exact Kd.R_nil _ _ _ _ _ | exact Kd.N_nil _ _ _ _ _ | exact Kd.V_nil _ _ _ _ _ | exact Kd.Q_nil _ _ _ _ _ | exact Kd.S_nil _ _ _ _ _⟩, ⟨by repeat (first | (with_reducible first | exact HB.out | apply below_alloc | apply pw_below_drewN | apply below_drew1) | exact HB.out)⟩⟩
 case round =>
  clear H'
  obtain ⟨x3_1, x4_1, rfl, HA, HK1, HO_3, HB⟩ := hrel
  cases gk with
  | zero => exact absurd HA.out (by simp [remitterref05_Chars.l0])
  | succ k1 =>
   have H := HA.out
   clear HA
   simp only [remitterref05_Chars.l0] at H
   by_cases c2 : x4_1 < (a0.size : Int)
   ·
    rw [if_pos c2] at H
    have c2b0 : decide (x4_1 < (a0.size : Int)) = true := decide_eq_true c2
    clear c2
    by_cases c3 : 0 ≤ x4_1
    ·
     rw [if_pos c3] at H
     have c3b0 := eq_true c3
     have c3b1 : decide (0 ≤ x4_1) = true := decide_eq_true c3
     clear c3
     by_cases c4 : x4_1 ≤ (a0.size : Int)
     ·
      rw [if_pos c4] at H
      have c4b0 := eq_true c4
      have c4b1 : decide (x4_1 ≤ (a0.size : Int)) = true := decide_eq_true c4
      clear c4
      replace H := Option.bind_eq_some_iff.mp H
      obtain ⟨t112, A50, H⟩ := H
      replace H : (if x4_1 ≤ (wrap64 (x4_1 + t112)) then (if (wrap64 (x4_1 + t112)) ≤ (a0.size : Int) then (if x3_1.length < 8796093022208 then (remitterref05_Chars.l0 k1 a0 (x3_1 ++ [a0.extract (x4_1 : Int).toNat ((wrap64 (x4_1 + t112)) : Int).toNat]) (wrap64 (x4_1 + t112))) else (none)) else (none)) else (none)) = some r := H
      have A5 := Aside0.mk A50
      clear A50
      have c6b0 := eq_true (of_decide_eq_true (by first | (with_reducible assumption) | assumption) : 0 ≤ x4_1)
      by_cases c7 : x4_1 ≤ (wrap64 (x4_1 + t112))
      ·
       rw [if_pos c7] at H
       have c7b0 := eq_true c7
       have c7b1 : decide (x4_1 ≤ (wrap64 (x4_1 + t112))) = true := decide_eq_true c7
       by_cases c8 : (wrap64 (x4_1 + t112)) ≤ (a0.size : Int)
       ·
        rw [if_pos c8] at H
        have c8b0 := eq_true c8
        have c8b1 : decide ((wrap64 (x4_1 + t112)) ≤ (a0.size : Int)) = true := decide_eq_true c8
        by_cases c9 : x3_1.length < 8796093022208
        ·
         rw [if_pos c9] at H
         have LMc9 := Aside0.mk c9
         clear c9
         obtain ⟨y113, hy113⟩ : ∃ y_ : List ByteArray, y_ = (x3_1 ++ [a0.extract (x4_1 : Int).toNat ((wrap64 (x4_1 + t112)) : Int).toNat]) := ⟨_, rfl⟩
         replace H : (remitterref05_Chars.l0 k1 a0 y113 (wrap64 (x4_1 + t112))) = some r := by first | (rw [hy113]; with_reducible exact H) | (have H2_ := (Option.bind_some _ _).symm.trans H; rw [hy113]; with_reducible exact H2_) | (have H2_ := (Option.bind_some _ _).symm.trans H; with_reducible exact H2_) | with_reducible exact H | (rw [hy113]; exact H) | exact H
         have Ny113 := Aside0.mk hy113
         clear hy113
         have H' := Aside0.mk H
         clear H
         go_wp2_with (first | ((with_reducible refine gate_callee (f := 99) rfl ?_); refine goesL_ (some 13) rfl rfl Tryz.func99 (by kernel_rfl) rfl #[.string (a0.extract (x4_1 : Int).toNat a0.size)] rfl (by (try simp only [List.map_toArray, List.map_cons, List.map_nil]); first | done | rfl | (simp only [List.length_drop, List.length_take]; rfl)) ?_; (with_reducible refine (remitterref05_size.calls k1 (a0.extract (x4_1 : Int).toNat a0.size) t112 _ A5.out).mono ?_); rintro e w' ⟨rfl, ⟨nd, rfl⟩⟩; refine ⟨_, rfl, ?_⟩) | ((with_reducible refine gate_builtin (b := .append) (xs := #[.tmp 14, .tmp 21]) rfl ?_); at_builtin; refine Kd.R_append Kd.string (w0 := w) w.heap.size rfl (.tmp 14) (.tmp 21) 96 9 (.string ⟨#[]⟩) 16 rfl Tryz.underlying96 info9 rfl (by decide) (by omega) u3 x3_1 (a0.extract (x4_1 : Int).toNat ((wrap64 (x4_1 + t112)) : Int).toNat) [.string (a0.extract (x4_1 : Int).toNat ((wrap64 (x4_1 + t112)) : Int).toNat)] (fun _ => True) (fun _ => False) rfl rfl ?aP (fun _ hk => hk.elim) ?aF ?aO ?aB ?aS ?aL ?_; (case aP => exact rfl); (case aB => exact (by repeat (first | (with_reducible first | exact HB.out | apply below_alloc | apply pw_below_drewN | apply below_drew1) | exact HB.out))); (case aF => exact (fun _ _ => trivial)); (case aO => exact (by (with_reducible repeat (first | apply Kd.R_alloc | apply Kd.R_drewN | apply Kd.R_drew)); exact HO_3.out)); (case aS => exact (below_size (by repeat (first | (with_reducible first | exact HB.out | apply below_alloc | apply pw_below_drewN | apply below_drew1) | exact HB.out)))); (case aL => have := LMc9.out; omega); intro v114 w10 ho hb hg hat; rw [← Ny113.out] at ho; have n0_ := Aside0.mk (hb); have n1_ := Aside0.mk (ho); clear HB; clear HO_3; have HB := n0_; have HO115 := n1_; clear n0_ n1_; clear ho hb hg hat))
         go_roundg k1
         case measure => have := HK1.out; omega
         case rel => exact ⟨(y113), (wrap64 (x4_1 + t112)), rf3, H', ⟨by have := HK1.out; omega⟩, ⟨by (with_reducible repeat (first | apply Kd.R_alloc | apply Kd.R_drewN | apply Kd.R_drew)); exact HO115.out⟩, ⟨by repeat (first | (with_reducible first | exact HB.out | apply below_alloc | apply pw_below_drewN | apply below_drew1) | exact HB.out)⟩⟩
        ·
         rw [if_neg c9] at H
         exact absurd H (by simp)
       ·
        rw [if_neg c8] at H
        exact absurd H (by simp)
      ·
       rw [if_neg c7] at H
       exact absurd H (by simp)
     ·
      rw [if_neg c4] at H
      exact absurd H (by simp)
    ·
     rw [if_neg c3] at H
     exact absurd H (by simp)
   ·
    rw [if_neg c2] at H
    have c2b0 : decide (x4_1 < (a0.size : Int)) = false := decide_eq_false c2
    clear c2
    obtain rfl := Option.some.inj H
    go_wp2
    go_ret
    exact ⟨_, by first | rfl | (simp [errW_none, errW_some] <;> rfl) | (simp [*, errW_none, errW_some] <;> rfl), by (with_reducible repeat (first | apply Kd.R_alloc | apply Kd.R_drewN | apply Kd.R_drew)); exact HO_3.out, by repeat (first | (with_reducible first | exact HB.out | apply below_alloc | apply pw_below_drewN | apply below_drew1) | exact HB.out)⟩
end Go.Proofs.YtknfpggiigncpaaGreatDoor.B
