/- Parts of the proof. -/
import Derived.Test.YtknfpggiigncpaaGreatDoorBx0
import Derived.Test.YtknfpggiigncpaaGreatDoorBx3
set_option linter.unusedVariables false
set_option linter.unusedSimpArgs false
namespace Go.Proofs.YtknfpggiigncpaaGreatDoor.B
open P
open Go.RowKit YtknfpggiigncpaaGreatDoorW.PrintWords YtknfpggiigncpaaGreatDoorW.PrintLast YtknfpggiigncpaaGreatDoorW.PrintMore
attribute [local go_sem] max2_int min2_int max_two min_two max_three min_three max_four min_four
/-! ### remitterref08_Unescape: function 30 -/
mutual
def remitterref08_Unescape.l0 : Nat → ByteArray → ByteArray → Int → Option (ByteArray × Int × Int)
 | 0, _, _, _ => none
 | k + 1, x0, x5, x6 => if x6 < (x0.size : Int) then (if 0 ≤ x6 then (if (bt x0 x6) = 38 then (remitterref08_Unescape.l1 k x0 x5 x6 (wrap64 (x6 + 1))) else (if x6 ≤ (wrap64 (x6 + 1)) then (if (wrap64 (x6 + 1)) ≤ (x0.size : Int) then (if x5.size + (x0.extract (x6 : Int).toNat ((wrap64 (x6 + 1)) : Int).toNat).size ≤ 9223372036854775807 then (remitterref08_Unescape.l0 k x0 (x5 ++ (x0.extract (x6 : Int).toNat ((wrap64 (x6 + 1)) : Int).toNat)) (wrap64 (x6 + 1))) else (none)) else (none)) else (none))) else (none)) else (some (x5, (x0.size : Int), 0))
def remitterref08_Unescape.j2 : Nat → ByteArray → ByteArray → Int → Int → Option (ByteArray × Int × Int)
 | 0, _, _, _, _ => none
 | k + 1, x0, x5, x6, x7 => if x7 ≥ (x0.size : Int) then (remitterref08_Unescape.j3 k x0 x5 x6 x7 true) else (if 0 ≤ x7 then (if x7 < (x0.size : Int) then (remitterref08_Unescape.j3 k x0 x5 x6 x7 ((bt x0 x7) != 59)) else (none)) else (none))
def remitterref08_Unescape.j3 : Nat → ByteArray → ByteArray → Int → Int → Bool → Option (ByteArray × Int × Int)
 | 0, _, _, _, _, _ => none
 | k + 1, x0, x5, x6, x7, x55 => if x55 = true then (some ((⟨#[]⟩ : ByteArray), x6, 22)) else (if 0 ≤ (wrap64 (x6 + 1)) then (if (wrap64 (x6 + 1)) ≤ x7 then (if x7 ≤ (x0.size : Int) then ((remitterref08_inside.f k (x0.extract ((wrap64 (x6 + 1)) : Int).toNat (x7 : Int).toNat)).bind fun t137 => (if t137 < 0 then (some ((⟨#[]⟩ : ByteArray), x6, 22)) else ((remitterref08_Put.f t137).bind fun t138 => (if x5.size + t138.size ≤ 9223372036854775807 then (remitterref08_Unescape.l0 k x0 (x5 ++ t138) (wrap64 (x7 + 1))) else (none))))) else (none)) else (none)) else (none))
def remitterref08_Unescape.l1 : Nat → ByteArray → ByteArray → Int → Int → Option (ByteArray × Int × Int)
 | 0, _, _, _, _ => none
 | k + 1, x0, x5, x6, x7 => if x7 < (x0.size : Int) then (if 0 ≤ x7 then (if (bt x0 x7) = 59 then (remitterref08_Unescape.j2 k x0 x5 x6 x7) else (if x7 < (wrap64 (x6 + 14)) then (remitterref08_Unescape.l1 k x0 x5 x6 (wrap64 (x7 + 1))) else (remitterref08_Unescape.j2 k x0 x5 x6 x7))) else (none)) else (remitterref08_Unescape.j2 k x0 x5 x6 x7)
end
def remitterref08_Unescape.f (k : Nat) (a0 : ByteArray) : Option (ByteArray × Int × Int) := remitterref08_Unescape.l0 k a0 (⟨#[]⟩ : ByteArray) 0
set_option maxHeartbeats 8000000 in
set_option maxRecDepth 100000 in
theorem remitterref08_Unescape.calls (k : Nat) (a0 : ByteArray) (r1 : ByteArray) (r2 : Int) (r3 : Int) (w : World) (h : remitterref08_Unescape.f k a0 = some (r1, r2, r3)) :
  Calls Tryz.prog 30 #[.string a0] w fun e w' => e = .returned (.tuple #[.string r1, .int .i64 r2, .int .i64 r3]) ∧ Below w.heap.size w w' := by
 have HB := Aside0.mk (Below.refl w.heap.size w)
 have H : (remitterref08_Unescape.l0 k a0 (⟨#[]⟩ : ByteArray) 0) = some (r1, r2, r3) := h
 clear h
 have H' := Aside0.mk H
 clear H
 go_enter Tryz.func30, Tryz.ntmps30
 go_wp2
 go_loopg [5, 6] k (fun kq v5 v6 w' => ∃ (x5_1 : ByteArray) (x6_1 : Int), v5 = .string x5_1 ∧ v6 = .int .i64 x6_1 ∧ Aside0 (remitterref08_Unescape.l0 kq a0 x5_1 x6_1 = some (r1, r2, r3)) ∧ Aside0 (kq ≤ k) ∧ Aside0 (Below w.heap.size w w'))
 case atStart => exact ⟨((⟨#[]⟩ : ByteArray)), (0), rf3, rf3, H', ⟨Nat.le_refl _⟩, ⟨by repeat (first | (with_reducible first | exact HB.out | apply below_alloc | apply pw_below_drewN | apply below_drew1) | exact HB.out)⟩⟩
 case round =>
  clear H'
  obtain ⟨x5_1, x6_1, rfl, rfl, HA, HK1, HB⟩ := hrel
  cases gk with
  | zero => exact absurd HA.out (by simp [remitterref08_Unescape.l0])
  | succ k1 =>
   have H := HA.out
   clear HA
   simp only [remitterref08_Unescape.l0] at H
   by_cases c2 : x6_1 < (a0.size : Int)
   ·
    rw [if_pos c2] at H
    have c2b0 : decide (x6_1 < (a0.size : Int)) = true := decide_eq_true c2
    clear c2
    by_cases c3 : 0 ≤ x6_1
    ·
     rw [if_pos c3] at H
     have c3b0 : decide (0 ≤ x6_1) = true := decide_eq_true c3
     clear c3
     by_cases c5 : (bt a0 x6_1) = 38
     ·
      rw [if_pos c5] at H
      have c5b0 : ((bt a0 x6_1) == 38) = true := beq_iff_eq.mpr c5
      have c5b1 : ((bt a0 x6_1) != 38) = false := bne_eq_false_iff_eq.mpr c5
      clear c5
      have HC6 := Aside0.mk H
      clear H
      have p4 : 0 ≤ (x6_1 : Int) := of_decide_eq_true (by first | (with_reducible assumption) | assumption)
      have q4 : x6_1 < (a0.size : Int) := of_decide_eq_true (by first | (with_reducible assumption) | assumption)
      have hx4 := bt_at a0 x6_1
      replace p4 := eq_true p4
      replace q4 := eq_true q4
      go_upto_block 2 with (fail)
      go_cut [7] (fun v7 wc => ∃ (kq : Nat) (x7_5 : Int), v7 = .int .i64 x7_5 ∧ Aside0 (remitterref08_Unescape.j2 kq a0 x5_1 x6_1 x7_5 = some (r1, r2, r3)) ∧ Aside0 (kq ≤ k1) ∧ Aside0 (Below w.heap.size w wc))
      case first =>
       have H := HC6.out
       clear HC6
       have H' := Aside0.mk H
       clear H
       go_wp2
       go_loopg [7] k1 (fun kq v7 w' => ∃ (x7_2 : Int), v7 = .int .i64 x7_2 ∧ Aside0 (remitterref08_Unescape.l1 kq a0 x5_1 x6_1 x7_2 = some (r1, r2, r3)) ∧ Aside0 (kq ≤ k1) ∧ Aside0 (Below w.heap.size w w'))
       case atStart => exact ⟨(wrap64 (x6_1 + 1)), rf3, H', ⟨Nat.le_refl _⟩, ⟨by repeat (first | (with_reducible first | exact HB.out | apply below_alloc | apply pw_below_drewN | apply below_drew1) | exact HB.out)⟩⟩
       case round =>
        clear H'
        try clear c2
        try clear c2b0
        try clear c3
        try clear c3b0
        try clear p4
        try clear q4
        try clear hx4
        try clear c5
        try clear c5b0
        try clear c5b1
        try clear p4
        try clear q4
        obtain ⟨x7_2, rfl, HA, HK2, HB⟩ := hrel
        cases gk with
        | zero => exact absurd HA.out (by simp [remitterref08_Unescape.l1])
        | succ k2 =>
         have H := HA.out
         clear HA
         simp only [remitterref08_Unescape.l1] at H
         by_cases c7 : x7_2 < (a0.size : Int)
         ·
          rw [if_pos c7] at H
          have c7b0 : decide (x7_2 < (a0.size : Int)) = true := decide_eq_true c7
          clear c7
          (first | rw [c7b0] | (simp only [i64_w, i32_w]; rw [c7b0]) | skip)
          by_cases c8 : 0 ≤ x7_2
          ·
           rw [if_pos c8] at H
           have c8b0 : decide (0 ≤ x7_2) = true := decide_eq_true c8
           clear c8
           by_cases c10 : (bt a0 x7_2) = 59
           ·
            rw [if_pos c10] at H
            have c10b0 : ((bt a0 x7_2) == 59) = true := beq_iff_eq.mpr c10
            have c10b1 : ((bt a0 x7_2) != 59) = false := bne_eq_false_iff_eq.mpr c10
            clear c10
            have H' := Aside0.mk H
            clear H
            have p9 : 0 ≤ (x7_2 : Int) := of_decide_eq_true (by first | (with_reducible assumption) | assumption)
            have q9 : x7_2 < (a0.size : Int) := of_decide_eq_true (by first | (with_reducible assumption) | assumption)
            have hx9 := bt_at a0 x7_2
            replace p9 := eq_true p9
            replace q9 := eq_true q9
            go_wp2
            go_meet
            case rel => exact ⟨_, (x7_2), rf3, H', ⟨by have := HK1.out; have := HK2.out; first | omega | exact Nat.le_refl _⟩, ⟨by repeat (first | (with_reducible first | exact HB.out | apply below_alloc | apply pw_below_drewN | apply below_drew1) | exact HB.out)⟩⟩
           ·
            rw [if_neg c10] at H
            have c10b0 : ((bt a0 x7_2) == 59) = false := beq_eq_false_iff_ne.mpr c10
            have c10b1 : ((bt a0 x7_2) != 59) = true := bne_iff_ne.mpr c10
            by_cases c11 : x7_2 < (wrap64 (x6_1 + 14))
            ·
             rw [if_pos c11] at H
             have c11b0 : decide (x7_2 < (wrap64 (x6_1 + 14))) = true := decide_eq_true c11
             clear c11
             have H' := Aside0.mk H
             clear H
             have p9 : 0 ≤ (x7_2 : Int) := of_decide_eq_true (by first | (with_reducible assumption) | assumption)
             have q9 : x7_2 < (a0.size : Int) := of_decide_eq_true (by first | (with_reducible assumption) | assumption)
             have hx9 := bt_at a0 x7_2
             replace p9 := eq_true p9
             replace q9 := eq_true q9
             go_wp2
             go_roundg k2
             case measure => have := HK1.out; have := HK2.out; omega
             case rel => exact ⟨(wrap64 (x7_2 + 1)), rf3, H', ⟨by have := HK1.out; have := HK2.out; omega⟩, ⟨by repeat (first | (with_reducible first | exact HB.out | apply below_alloc | apply pw_below_drewN | apply below_drew1) | exact HB.out)⟩⟩
            ·
             rw [if_neg c11] at H
             have c11b0 : decide (x7_2 < (wrap64 (x6_1 + 14))) = false := decide_eq_false c11
             clear c11
             have H' := Aside0.mk H
             clear H
             have p9 : 0 ≤ (x7_2 : Int) := of_decide_eq_true (by first | (with_reducible assumption) | assumption)
             have q9 : x7_2 < (a0.size : Int) := of_decide_eq_true (by first | (with_reducible assumption) | assumption)
             have hx9 := bt_at a0 x7_2
             replace p9 := eq_true p9
             replace q9 := eq_true q9
             go_wp2
             go_meet
             case rel => exact ⟨_, (x7_2), rf3, H', ⟨by have := HK1.out; have := HK2.out; first | omega | exact Nat.le_refl _⟩, ⟨by repeat (first | (with_reducible first | exact HB.out | apply below_alloc | apply pw_below_drewN | apply below_drew1) | exact HB.out)⟩⟩
          ·
           rw [if_neg c8] at H
           exact absurd H (by simp)
         ·
          rw [if_neg c7] at H
          have c7b0 : decide (x7_2 < (a0.size : Int)) = false := decide_eq_false c7
          clear c7
          (first | rw [c7b0] | (simp only [i64_w, i32_w]; rw [c7b0]) | skip)
          have H' := Aside0.mk H
          clear H
          go_wp2
          go_meet
          case rel => exact ⟨_, (x7_2), rf3, H', ⟨by have := HK1.out; have := HK2.out; first | omega | exact Nat.le_refl _⟩, ⟨by repeat (first | (with_reducible first | exact HB.out | apply below_alloc | apply pw_below_drewN | apply below_drew1) | exact HB.out)⟩⟩
      case rest =>
       clear HC6
       try clear c2
       try clear c2b0
       try clear c3
       try clear c3b0
       try clear p4
       try clear q4
       try clear hx4
       try clear c5
       try clear c5b0
       try clear c5b1
       try clear c7
       try clear c7b0
       try clear c8
       try clear c8b0
       try clear p9
       try clear q9
       try clear hx9
       try clear c10
       try clear c10b0
       try clear c10b1
       try clear c11
       try clear c11b0
       try clear p4
       try clear p9
       try clear q4
       try clear q9
       obtain ⟨kq, x7_5, rfl, HA, HJ5, HB⟩ := hcut
       cases kq with
       | zero => exact absurd HA.out (by simp [remitterref08_Unescape.j2])
       | succ kj5 =>
        have H := HA.out
        clear HA
        simp only [remitterref08_Unescape.j2] at H
        have HC12 := Aside0.mk H
        clear H
        go_upto_region 10 with (fail)
        go_cut [55] (fun v55 wc => ∃ (kq : Nat) (x55_11 : Bool), v55 = .bool x55_11 ∧ Aside0 (remitterref08_Unescape.j3 kq a0 x5_1 x6_1 x7_5 x55_11 = some (r1, r2, r3)) ∧ Aside0 (kq ≤ kj5) ∧ Aside0 (Below w.heap.size w wc))
        case first =>
         have H := HC12.out
         clear HC12
         by_cases c13 : x7_5 ≥ (a0.size : Int)
         ·
          rw [if_pos c13] at H
          have c13b0 : decide ((a0.size : Int) ≤ x7_5) = true := decide_eq_true c13
          clear c13
          (first | rw [c13b0] | (simp only [i64_w, i32_w]; rw [c13b0]) | skip)
          have H' := Aside0.mk H
          clear H
          go_wp2
          go_meet
          case rel => exact ⟨_, (true), rf3, H', ⟨by have := HK1.out; have := HJ5.out; first | omega | exact Nat.le_refl _⟩, ⟨by repeat (first | (with_reducible first | exact HB.out | apply below_alloc | apply pw_below_drewN | apply below_drew1) | exact HB.out)⟩⟩
         ·
          rw [if_neg c13] at H
          have c13b0 : decide ((a0.size : Int) ≤ x7_5) = false := decide_eq_false c13
          clear c13
          (first | rw [c13b0] | (simp only [i64_w, i32_w]; rw [c13b0]) | skip)
          by_cases c14 : 0 ≤ x7_5
          ·
           rw [if_pos c14] at H
           have c14b0 : decide (0 ≤ x7_5) = true := decide_eq_true c14
           clear c14
           by_cases c15 : x7_5 < (a0.size : Int)
           ·
            rw [if_pos c15] at H
            have c15b0 : decide (x7_5 < (a0.size : Int)) = true := decide_eq_true c15
            clear c15
            have H' := Aside0.mk H
            clear H
            have p16 : 0 ≤ (x7_5 : Int) := of_decide_eq_true (by first | (with_reducible assumption) | assumption)
            have q16 : x7_5 < (a0.size : Int) := of_decide_eq_true (by first | (with_reducible assumption) | assumption)
            have hx16 := bt_at a0 x7_5
            replace p16 := eq_true p16
            replace q16 := eq_true q16
            go_wp2
            go_meet
            case rel => exact ⟨_, (((bt a0 x7_5) != 59)), rf3, H', ⟨by have := HK1.out; have := HJ5.out; first | omega | exact Nat.le_refl _⟩, ⟨by repeat (first | (with_reducible first | exact HB.out | apply below_alloc | apply pw_below_drewN | apply below_drew1) | exact HB.out)⟩⟩
           ·
            rw [if_neg c15] at H
            exact absurd H (by simp)
          ·
           rw [if_neg c14] at H
           exact absurd H (by simp)
        case rest =>
         clear HC12
         try clear c2
         try clear c2b0
         try clear c3
         try clear c3b0
         try clear p4
         try clear q4
         try clear hx4
         try clear c5
         try clear c5b0
         try clear c5b1
         try clear c7
         try clear c7b0
         try clear c8
         try clear c8b0
         try clear p9
         try clear q9
         try clear hx9
         try clear c10
         try clear c10b0
         try clear c10b1
         try clear c11
         try clear c11b0
         try clear c13
         try clear c13b0
         try clear c14
         try clear c14b0
         try clear c15
         try clear c15b0
         try clear p16
         try clear q16
         try clear hx16
         try clear p16
         try clear p4
         try clear p9
         try clear q16
         try clear q4
         try clear q9
         obtain ⟨kq, x55_11, rfl, HA, HJ11, HB⟩ := hcut
         cases kq with
         | zero => exact absurd HA.out (by simp [remitterref08_Unescape.j3])
         | succ kj11 =>
          have H := HA.out
          clear HA
          simp only [remitterref08_Unescape.j3] at H
          by_cases c17 : x55_11 = true
          ·
           subst c17
           have H1 : (some ((⟨#[]⟩ : ByteArray), x6_1, 22)) = some (r1, r2, r3) := by rw [if_pos rfl] at H; exact H
           clear H
           have H := H1
           clear H1
           simp only [Option.some.injEq, Prod.mk.injEq] at H
           obtain ⟨rfl, rfl, rfl⟩ := H
           go_wp2
           go_ret3
           exact ⟨by first | rfl | (simp [errW_none, errW_some] <;> rfl) | (simp [*, errW_none, errW_some] <;> rfl), by repeat (first | (with_reducible first | exact HB.out | apply below_alloc | apply pw_below_drewN | apply below_drew1) | exact HB.out)⟩
          ·
           replace c17 := Bool.eq_false_iff.mpr c17
           subst c17
           have H1 : (if 0 ≤ (wrap64 (x6_1 + 1)) then (if (wrap64 (x6_1 + 1)) ≤ x7_5 then (if x7_5 ≤ (a0.size : Int) then ((remitterref08_inside.f kj11 (a0.extract ((wrap64 (x6_1 + 1)) : Int).toNat (x7_5 : Int).toNat)).bind fun t137 => (if t137 < 0 then (some ((⟨#[]⟩ : ByteArray), x6_1, 22)) else ((remitterref08_Put.f t137).bind fun t138 => (if x5_1.size + t138.size ≤ 9223372036854775807 then (remitterref08_Unescape.l0 kj11 a0 (x5_1 ++ t138) (wrap64 (x7_5 + 1))) else (none))))) else (none)) else (none)) else (none)) = some (r1, r2, r3) := by rw [if_neg (show ¬ (false = true) by decide)] at H; exact H
           clear H
           have H := H1
           clear H1
           obtain ⟨ji18, hji18⟩ : ∃ j_ : Int, (wrap64 (x6_1 + 1)) = j_ := ⟨_, rfl⟩
           replace H : (if 0 ≤ (ji18) then (if (ji18) ≤ x7_5 then (if x7_5 ≤ (a0.size : Int) then ((remitterref08_inside.f kj11 (a0.extract ((ji18) : Int).toNat (x7_5 : Int).toNat)).bind fun t137 => (if t137 < 0 then (some ((⟨#[]⟩ : ByteArray), x6_1, 22)) else ((remitterref08_Put.f t137).bind fun t138 => (if x5_1.size + t138.size ≤ 9223372036854775807 then (remitterref08_Unescape.l0 kj11 a0 (x5_1 ++ t138) (wrap64 (x7_5 + 1))) else (none))))) else (none)) else (none)) else (none)) = some (r1, r2, r3) := by first | (rw [hji18] at H; exact H) | (simp only [hji18] at H ⊢; exact H)
           have hji18w : (IntKind.i64.wrap (x6_1 + 1)) = ji18 := (i64_w _).trans hji18
           by_cases c19 : 0 ≤ (ji18)
           ·
            rw [if_pos c19] at H
            have c19b0 := eq_true c19
            have c19b1 : decide (0 ≤ (ji18)) = true := decide_eq_true c19
            clear c19
            by_cases c20 : (ji18) ≤ x7_5
            ·
             rw [if_pos c20] at H
             have c20b0 := eq_true c20
             have c20b1 : decide ((ji18) ≤ x7_5) = true := decide_eq_true c20
             clear c20
             by_cases c21 : x7_5 ≤ (a0.size : Int)
             ·
              rw [if_pos c21] at H
              have c21b0 := eq_true c21
              have c21b1 : decide (x7_5 ≤ (a0.size : Int)) = true := decide_eq_true c21
              clear c21
              replace H := Option.bind_eq_some_iff.mp H
              obtain ⟨t137, A220, H⟩ := H
              replace H : (if t137 < 0 then (some ((⟨#[]⟩ : ByteArray), x6_1, 22)) else ((remitterref08_Put.f t137).bind fun t138 => (if x5_1.size + t138.size ≤ 9223372036854775807 then (remitterref08_Unescape.l0 kj11 a0 (x5_1 ++ t138) (wrap64 (x7_5 + 1))) else (none)))) = some (r1, r2, r3) := H
              have A22 := Aside0.mk A220
              clear A220
              by_cases c23 : t137 < 0
              ·
               rw [if_pos c23] at H
               have c23b0 : decide (t137 < 0) = true := decide_eq_true c23
               clear c23
               simp only [Option.some.injEq, Prod.mk.injEq] at H
               obtain ⟨rfl, rfl, rfl⟩ := H
               go_wp2_with (first | ((with_reducible refine gate_callee (f := 70) rfl ?_); refine goesL_ (some 62) rfl rfl Tryz.func70 (by kernel_rfl) rfl #[.string (a0.extract ((ji18) : Int).toNat (x7_5 : Int).toNat)] rfl (by (try simp only [List.map_toArray, List.map_cons, List.map_nil]); first | done | (simp only [hji18]; rfl) | rfl | (simp only [List.length_drop, List.length_take]; rfl)) ?_; (with_reducible refine (remitterref08_inside.calls kj11 (a0.extract ((ji18) : Int).toNat (x7_5 : Int).toNat) t137 _ A22.out).mono ?_); rintro e w' ⟨rfl, ⟨nd, rfl⟩⟩; refine ⟨_, rfl, ?_⟩))
               go_ret3
               exact ⟨by first | rfl | (simp [errW_none, errW_some] <;> rfl) | (simp only [← hji18]; first | rfl | (simp [errW_none, errW_some] <;> rfl)) | (simp [*, errW_none, errW_some] <;> rfl), by repeat (first | (with_reducible first | exact HB.out | apply below_alloc | apply pw_below_drewN | apply below_drew1) | exact HB.out)⟩
              ·
               rw [if_neg c23] at H
               have c23b0 : decide (t137 < 0) = false := decide_eq_false c23
               clear c23
               replace H := Option.bind_eq_some_iff.mp H
               obtain ⟨t138, A240, H⟩ := H
               replace H : (if x5_1.size + t138.size ≤ 9223372036854775807 then (remitterref08_Unescape.l0 kj11 a0 (x5_1 ++ t138) (wrap64 (x7_5 + 1))) else (none)) = some (r1, r2, r3) := H
               have A24 := Aside0.mk A240
               clear A240
               by_cases c25 : x5_1.size + t138.size ≤ 9223372036854775807
               ·
                rw [if_pos c25] at H
                have c25b0 := eq_true c25
                have c25b1 : decide (x5_1.size + t138.size ≤ 9223372036854775807) = true := decide_eq_true c25
                try have c25b2 : (9223372036854775807 < x5_1.size + t138.size) = False := eq_false (Nat.not_lt.2 c25)
                have H' := Aside0.mk H
                clear H
                go_wp2_with (first | ((with_reducible refine gate_callee (f := 70) rfl ?_); refine goesL_ (some 62) rfl rfl Tryz.func70 (by kernel_rfl) rfl #[.string (a0.extract ((ji18) : Int).toNat (x7_5 : Int).toNat)] rfl (by (try simp only [List.map_toArray, List.map_cons, List.map_nil]); first | done | (simp only [hji18]; rfl) | rfl | (simp only [List.length_drop, List.length_take]; rfl)) ?_; (with_reducible refine (remitterref08_inside.calls kj11 (a0.extract ((ji18) : Int).toNat (x7_5 : Int).toNat) t137 _ A22.out).mono ?_); rintro e w' ⟨rfl, ⟨nd, rfl⟩⟩; refine ⟨_, rfl, ?_⟩) | ((with_reducible refine gate_callee (f := 71) rfl ?_); refine goesL_ (some 68) rfl rfl Tryz.func71 (by kernel_rfl) rfl #[.int .i64 t137] rfl (by (try simp only [List.map_toArray, List.map_cons, List.map_nil]); first | done | rfl | (simp only [List.length_drop, List.length_take]; rfl)) ?_; (with_reducible refine (remitterref08_Put.calls t137 t138 _ A24.out).mono ?_); rintro e w26 ⟨rfl, hb⟩; refine ⟨_, rfl, ?_⟩; have n0_ := Aside0.mk (below_step (by repeat (first | (with_reducible first | exact HB.out | apply below_alloc | apply pw_below_drewN | apply below_drew1) | exact HB.out)) hb); clear HB; have HB := n0_; clear n0_; (try clear hb); (try clear hb2); (try clear hk); (try clear hi)))
                go_roundg kj11
                case measure => have := HK1.out; have := HJ5.out; have := HJ11.out; omega
                case rel => exact ⟨(x5_1 ++ t138), (wrap64 (x7_5 + 1)), rf3, rf3, H', ⟨by have := HK1.out; have := HJ5.out; have := HJ11.out; omega⟩, ⟨by repeat (first | (with_reducible first | exact HB.out | apply below_alloc | apply pw_below_drewN | apply below_drew1) | exact HB.out)⟩⟩
               ·
                rw [if_neg c25] at H
                exact absurd H (by simp)
             ·
              rw [if_neg c21] at H
              exact absurd H (by simp)
            ·
             rw [if_neg c20] at H
             exact absurd H (by simp)
           ·
            rw [if_neg c19] at H
            exact absurd H (by simp)
     ·
      rw [if_neg c5] at H
      have c5b0 : ((bt a0 x6_1) == 38) = false := beq_eq_false_iff_ne.mpr c5
      have c5b1 : ((bt a0 x6_1) != 38) = true := bne_iff_ne.mpr c5
      have c27b0 := eq_true (of_decide_eq_true (by first | (with_reducible assumption) | assumption) : 0 ≤ x6_1)
      by_cases c28 : x6_1 ≤ (wrap64 (x6_1 + 1))
      ·
       rw [if_pos c28] at H
       have c28b0 := eq_true c28
       have c28b1 : decide (x6_1 ≤ (wrap64 (x6_1 + 1))) = true := decide_eq_true c28
       by_cases c29 : (wrap64 (x6_1 + 1)) ≤ (a0.size : Int)
       ·
        rw [if_pos c29] at H
        have c29b0 := eq_true c29
        have c29b1 : decide ((wrap64 (x6_1 + 1)) ≤ (a0.size : Int)) = true := decide_eq_true c29
        by_cases c30 : x5_1.size + (a0.extract (x6_1 : Int).toNat ((wrap64 (x6_1 + 1)) : Int).toNat).size ≤ 9223372036854775807
        ·
         rw [if_pos c30] at H
         have c30b0 := eq_true c30
         have c30b1 : decide (x5_1.size + (a0.extract (x6_1 : Int).toNat ((wrap64 (x6_1 + 1)) : Int).toNat).size ≤ 9223372036854775807) = true := decide_eq_true c30
         try have c30b2 : (9223372036854775807 < x5_1.size + (a0.extract (x6_1 : Int).toNat ((wrap64 (x6_1 + 1)) : Int).toNat).size) = False := eq_false (Nat.not_lt.2 c30)
         have H' := Aside0.mk H
         clear H
         have p4 : 0 ≤ (x6_1 : Int) := of_decide_eq_true (by first | (with_reducible assumption) | assumption)
         have q4 : x6_1 < (a0.size : Int) := of_decide_eq_true (by first | (with_reducible assumption) | assumption)
         have hx4 := bt_at a0 x6_1
         replace p4 := eq_true p4
         replace q4 := eq_true q4
         go_wp2
         go_roundg k1
         case measure => have := HK1.out; omega
         case rel => exact ⟨(x5_1 ++ (a0.extract (x6_1 : Int).toNat ((wrap64 (x6_1 + 1)) : Int).toNat)), (wrap64 (x6_1 + 1)), rf3, rf3, H', ⟨by have := HK1.out; omega⟩, ⟨by repeat (first | (with_reducible first | exact HB.out | apply below_alloc | apply pw_below_drewN | apply below_drew1) | exact HB.out)⟩⟩
        ·
         rw [if_neg c30] at H
         exact absurd H (by simp)
       ·
        rw [if_neg c29] at H
        exact absurd H (by simp)
      ·
       rw [if_neg c28] at H
       exact absurd H (by simp)
    ·
     rw [if_neg c3] at H
     exact absurd H (by simp)
   ·
    rw [if_neg c2] at H
    have c2b0 : decide (x6_1 < (a0.size : Int)) = false := decide_eq_false c2
    clear c2
    simp only [Option.some.injEq, Prod.mk.injEq] at H
    obtain ⟨rfl, rfl, rfl⟩ := H
    go_wp2
    go_ret3
    exact ⟨by first | rfl | (simp [errW_none, errW_some] <;> rfl) | (simp [*, errW_none, errW_some] <;> rfl), by repeat (first | (with_reducible first | exact HB.out | apply below_alloc | apply pw_below_drewN | apply below_drew1) | exact HB.out)⟩
/-! ### remitterref08_Escape: function 32 -/
def remitterref08_Escape.l0 : Nat → ByteArray → ByteArray → Int → Option (ByteArray)
 | 0, _, _, _ => none
 | k + 1, x0, x3, x4 => if x4 < (x0.size : Int) then (if 0 ≤ x4 then (if (bt x0 x4) = 38 then (if x3.size + 5 ≤ 9223372036854775807 then (remitterref08_Escape.l0 k x0 (x3 ++ (⟨#[38, 97, 109, 112, 59]⟩ : ByteArray)) (wrap64 (x4 + 1))) else (none)) else (if (bt x0 x4) = 60 then (if x3.size + 4 ≤ 9223372036854775807 then (remitterref08_Escape.l0 k x0 (x3 ++ (⟨#[38, 108, 116, 59]⟩ : ByteArray)) (wrap64 (x4 + 1))) else (none)) else (if (bt x0 x4) = 62 then (if x3.size + 4 ≤ 9223372036854775807 then (remitterref08_Escape.l0 k x0 (x3 ++ (⟨#[38, 103, 116, 59]⟩ : ByteArray)) (wrap64 (x4 + 1))) else (none)) else (if (bt x0 x4) = 34 then (if x3.size + 6 ≤ 9223372036854775807 then (remitterref08_Escape.l0 k x0 (x3 ++ (⟨#[38, 113, 117, 111, 116, 59]⟩ : ByteArray)) (wrap64 (x4 + 1))) else (none)) else (if (bt x0 x4) = 39 then (if x3.size + 6 ≤ 9223372036854775807 then (remitterref08_Escape.l0 k x0 (x3 ++ (⟨#[38, 97, 112, 111, 115, 59]⟩ : ByteArray)) (wrap64 (x4 + 1))) else (none)) else (if (bt x0 x4) = 9 then (if x3.size + 5 ≤ 9223372036854775807 then (remitterref08_Escape.l0 k x0 (x3 ++ (⟨#[38, 35, 120, 57, 59]⟩ : ByteArray)) (wrap64 (x4 + 1))) else (none)) else (if (bt x0 x4) = 10 then (if x3.size + 5 ≤ 9223372036854775807 then (remitterref08_Escape.l0 k x0 (x3 ++ (⟨#[38, 35, 120, 65, 59]⟩ : ByteArray)) (wrap64 (x4 + 1))) else (none)) else (if (bt x0 x4) = 13 then (if x3.size + 5 ≤ 9223372036854775807 then (remitterref08_Escape.l0 k x0 (x3 ++ (⟨#[38, 35, 120, 68, 59]⟩ : ByteArray)) (wrap64 (x4 + 1))) else (none)) else (if x4 ≤ (wrap64 (x4 + 1)) then (if (wrap64 (x4 + 1)) ≤ (x0.size : Int) then (if x3.size + (x0.extract (x4 : Int).toNat ((wrap64 (x4 + 1)) : Int).toNat).size ≤ 9223372036854775807 then (remitterref08_Escape.l0 k x0 (x3 ++ (x0.extract (x4 : Int).toNat ((wrap64 (x4 + 1)) : Int).toNat)) (wrap64 (x4 + 1))) else (none)) else (none)) else (none)))))))))) else (none)) else (some x3)
end Go.Proofs.YtknfpggiigncpaaGreatDoor.B
