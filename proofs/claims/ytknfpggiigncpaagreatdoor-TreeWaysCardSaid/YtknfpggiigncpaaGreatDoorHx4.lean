/- Parts of the proof. -/
import Derived.Test.YtknfpggiigncpaaGreatDoorAx0
import Derived.Test.YtknfpggiigncpaaGreatDoorXCheck
import Derived.Test.YtknfpggiigncpaaGreatDoorXRune
import Derived.Test.YtknfpggiigncpaaGreatDoorXUnesc
import Derived.Test.YtknfpggiigncpaaGreatDoorXOnce
set_option linter.unusedVariables false
set_option linter.unusedSimpArgs false
namespace Go.Proofs.YtknfpggiigncpaaGreatDoor.E
open P Go.RowKit YtknfpggiigncpaaGreatDoorW.PrintWords YtknfpggiigncpaaGreatDoorW.PrintLast YtknfpggiigncpaaGreatDoorW.PrintMore
attribute [local go_sem] max2_int min2_int max_two min_two max_three min_three max_four min_four
/-! ### remitterlaw10_draw: function 39 -/
mutual
def remitterlaw10_draw.j0 : Nat → Int → Bool → ByteArray → ByteArray → ByteArray → List (S24) → Option (ByteArray)
 | 0, _, _, _, _, _, _ => none
 | k + 1, x1, x2, x7, x113000, x113001, x113002 => if 1 + x7.size ≤ 9223372036854775807 then (if x2 = true then (remitterlaw10_draw.j1 k x1 x2 x7 ((⟨#[60]⟩ : ByteArray) ++ x7) ((Go.bits .and .u8 x1 1) == 1) x113000 x113001 x113002) else (remitterlaw10_draw.j1 k x1 x2 x7 ((⟨#[60]⟩ : ByteArray) ++ x7) false x113000 x113001 x113002)) else (none)
def remitterlaw10_draw.j1 : Nat → Int → Bool → ByteArray → ByteArray → Bool → ByteArray → ByteArray → List (S24) → Option (ByteArray)
 | 0, _, _, _, _, _, _, _, _ => none
 | k + 1, x1, x2, x7, x8, x28, x113000, x113001, x113002 => if x28 = true then (if x8.size + 12 ≤ 9223372036854775807 then (remitterlaw10_draw.j2 k x1 x7 (x8 ++ (⟨#[32, 120, 109, 108, 110, 115, 58, 112, 61, 34, 117, 34]⟩ : ByteArray)) x113000 x113001 x113002) else (none)) else (if x2 = true then (if x8.size + 10 ≤ 9223372036854775807 then (remitterlaw10_draw.j2 k x1 x7 (x8 ++ (⟨#[32, 120, 109, 108, 110, 115, 61, 39, 117, 39]⟩ : ByteArray)) x113000 x113001 x113002) else (none)) else (remitterlaw10_draw.j2 k x1 x7 x8 x113000 x113001 x113002))
def remitterlaw10_draw.j2 : Nat → Int → ByteArray → ByteArray → ByteArray → ByteArray → List (S24) → Option (ByteArray)
 | 0, _, _, _, _, _, _ => none
 | k + 1, x1, x7, x8, x113000, x113001, x113002 => remitterlaw10_draw.l0 k x1 x7 x8 0 0 x113000 x113001 x113002
def remitterlaw10_draw.l0 : Nat → Int → ByteArray → ByteArray → Int → Int → ByteArray → ByteArray → List (S24) → Option (ByteArray)
 | 0, _, _, _, _, _, _, _, _ => none
 | k + 1, x1, x7, x8, x9, x10, x113000, x113001, x113002 => if x10 < (x113002.length : Int) then (if 0 ≤ x10 then (if 0 < (((rd_T24 x113002 x10).f0).size : Int) then (if (bt ((rd_T24 x113002 x10).f0) 0) = 64 then (if (Go.bits .and .u8 x1 2) = 2 then (if x8.size + 1 ≤ 9223372036854775807 then (if 1 ≤ (((rd_T24 x113002 x10).f0).size : Int) then (if (x8 ++ (⟨#[32]⟩ : ByteArray)).size + (((rd_T24 x113002 x10).f0).extract 1 ((rd_T24 x113002 x10).f0).size).size ≤ 9223372036854775807 then (if ((x8 ++ (⟨#[32]⟩ : ByteArray)) ++ (((rd_T24 x113002 x10).f0).extract 1 ((rd_T24 x113002 x10).f0).size)).size + 1 ≤ 9223372036854775807 then (if (((x8 ++ (⟨#[32]⟩ : ByteArray)) ++ (((rd_T24 x113002 x10).f0).extract 1 ((rd_T24 x113002 x10).f0).size)) ++ (⟨#[61]⟩ : ByteArray)).size + 1 ≤ 9223372036854775807 then ((text_Escape.f ((rd_T24 x113002 x10).f1)).bind fun t115 => (if ((((x8 ++ (⟨#[32]⟩ : ByteArray)) ++ (((rd_T24 x113002 x10).f0).extract 1 ((rd_T24 x113002 x10).f0).size)) ++ (⟨#[61]⟩ : ByteArray)) ++ (⟨#[39]⟩ : ByteArray)).size + t115.size ≤ 9223372036854775807 then (if (((((x8 ++ (⟨#[32]⟩ : ByteArray)) ++ (((rd_T24 x113002 x10).f0).extract 1 ((rd_T24 x113002 x10).f0).size)) ++ (⟨#[61]⟩ : ByteArray)) ++ (⟨#[39]⟩ : ByteArray)) ++ t115).size + 1 ≤ 9223372036854775807 then (remitterlaw10_draw.l0 k x1 x7 ((((((x8 ++ (⟨#[32]⟩ : ByteArray)) ++ (((rd_T24 x113002 x10).f0).extract 1 ((rd_T24 x113002 x10).f0).size)) ++ (⟨#[61]⟩ : ByteArray)) ++ (⟨#[39]⟩ : ByteArray)) ++ t115) ++ (⟨#[39]⟩ : ByteArray)) x9 (wrap64 (x10 + 1)) x113000 x113001 x113002) else (none)) else (none))) else (none)) else (none)) else (none)) else (none)) else (none)) else (if x8.size + 1 ≤ 9223372036854775807 then (if 1 ≤ (((rd_T24 x113002 x10).f0).size : Int) then (if (x8 ++ (⟨#[32]⟩ : ByteArray)).size + (((rd_T24 x113002 x10).f0).extract 1 ((rd_T24 x113002 x10).f0).size).size ≤ 9223372036854775807 then (if ((x8 ++ (⟨#[32]⟩ : ByteArray)) ++ (((rd_T24 x113002 x10).f0).extract 1 ((rd_T24 x113002 x10).f0).size)).size + 1 ≤ 9223372036854775807 then (if (((x8 ++ (⟨#[32]⟩ : ByteArray)) ++ (((rd_T24 x113002 x10).f0).extract 1 ((rd_T24 x113002 x10).f0).size)) ++ (⟨#[61]⟩ : ByteArray)).size + 1 ≤ 9223372036854775807 then ((text_Escape.f ((rd_T24 x113002 x10).f1)).bind fun t116 => (if ((((x8 ++ (⟨#[32]⟩ : ByteArray)) ++ (((rd_T24 x113002 x10).f0).extract 1 ((rd_T24 x113002 x10).f0).size)) ++ (⟨#[61]⟩ : ByteArray)) ++ (⟨#[34]⟩ : ByteArray)).size + t116.size ≤ 9223372036854775807 then (if (((((x8 ++ (⟨#[32]⟩ : ByteArray)) ++ (((rd_T24 x113002 x10).f0).extract 1 ((rd_T24 x113002 x10).f0).size)) ++ (⟨#[61]⟩ : ByteArray)) ++ (⟨#[34]⟩ : ByteArray)) ++ t116).size + 1 ≤ 9223372036854775807 then (remitterlaw10_draw.l0 k x1 x7 ((((((x8 ++ (⟨#[32]⟩ : ByteArray)) ++ (((rd_T24 x113002 x10).f0).extract 1 ((rd_T24 x113002 x10).f0).size)) ++ (⟨#[61]⟩ : ByteArray)) ++ (⟨#[34]⟩ : ByteArray)) ++ t116) ++ (⟨#[34]⟩ : ByteArray)) x9 (wrap64 (x10 + 1)) x113000 x113001 x113002) else (none)) else (none))) else (none)) else (none)) else (none)) else (none)) else (none))) else (remitterlaw10_draw.l0 k x1 x7 x8 (wrap64 (x9 + 1)) (wrap64 (x10 + 1)) x113000 x113001 x113002)) else (none)) else (none)) else (if (Go.bits .and .u8 x1 4) = 4 then (if x8.size + 1 ≤ 9223372036854775807 then (remitterlaw10_draw.j4 k x1 x7 (x8 ++ (⟨#[10]⟩ : ByteArray)) x9 x113000 x113001 x113002) else (none)) else (remitterlaw10_draw.j4 k x1 x7 x8 x9 x113000 x113001 x113002))
def remitterlaw10_draw.j4 : Nat → Int → ByteArray → ByteArray → Int → ByteArray → ByteArray → List (S24) → Option (ByteArray)
 | 0, _, _, _, _, _, _, _ => none
 | k + 1, x1, x7, x8, x9, x113000, x113001, x113002 => if x9 = 0 then (if x113001.toList = ([] : List UInt8) then (remitterlaw10_draw.j5 k x1 x7 x8 x9 ((Go.bits .and .u8 x1 8) == 8) x113000 x113001 x113002) else (remitterlaw10_draw.j5 k x1 x7 x8 x9 false x113000 x113001 x113002)) else (remitterlaw10_draw.j5 k x1 x7 x8 x9 false x113000 x113001 x113002)
def remitterlaw10_draw.j5 : Nat → Int → ByteArray → ByteArray → Int → Bool → ByteArray → ByteArray → List (S24) → Option (ByteArray)
 | 0, _, _, _, _, _, _, _, _ => none
 | k + 1, x1, x7, x8, x9, x86, x113000, x113001, x113002 => if x86 = true then (if x8.size + 2 ≤ 9223372036854775807 then (some (x8 ++ (⟨#[47, 62]⟩ : ByteArray))) else (none)) else (if x8.size + 1 ≤ 9223372036854775807 then (if (Go.bits .and .u8 x1 16) = 16 then (if (x8 ++ (⟨#[62]⟩ : ByteArray)).size + 10 ≤ 9223372036854775807 then (remitterlaw10_draw.j6 k x1 x7 ((x8 ++ (⟨#[62]⟩ : ByteArray)) ++ (⟨#[60, 33, 45, 45, 32, 120, 32, 45, 45, 62]⟩ : ByteArray)) x9 x113000 x113001 x113002) else (none)) else (remitterlaw10_draw.j6 k x1 x7 (x8 ++ (⟨#[62]⟩ : ByteArray)) x9 x113000 x113001 x113002)) else (none))
def remitterlaw10_draw.j6 : Nat → Int → ByteArray → ByteArray → Int → ByteArray → ByteArray → List (S24) → Option (ByteArray)
 | 0, _, _, _, _, _, _, _ => none
 | k + 1, x1, x7, x8, x9, x113000, x113001, x113002 => if x9 = 0 then ((text_Escape.f x113001).bind fun t117 => (if x8.size + t117.size ≤ 9223372036854775807 then (if (Go.bits .and .u8 x1 32) = 32 then (if (x8 ++ t117).size + 12 ≤ 9223372036854775807 then (remitterlaw10_draw.j7 k x1 x7 ((x8 ++ t117) ++ (⟨#[60, 33, 91, 67, 68, 65, 84, 65, 91, 93, 93, 62]⟩ : ByteArray)) x113000 x113001 x113002) else (none)) else (remitterlaw10_draw.j7 k x1 x7 (x8 ++ t117) x113000 x113001 x113002)) else (none))) else (remitterlaw10_draw.j7 k x1 x7 x8 x113000 x113001 x113002)
def remitterlaw10_draw.j7 : Nat → Int → ByteArray → ByteArray → ByteArray → ByteArray → List (S24) → Option (ByteArray)
 | 0, _, _, _, _, _, _ => none
 | k + 1, x1, x7, x8, x113000, x113001, x113002 => remitterlaw10_draw.l1 k x1 x7 x8 0 x113000 x113001 x113002
def remitterlaw10_draw.l1 : Nat → Int → ByteArray → ByteArray → Int → ByteArray → ByteArray → List (S24) → Option (ByteArray)
 | 0, _, _, _, _, _, _, _ => none
 | k + 1, x1, x7, x8, x13, x113000, x113001, x113002 => if x13 < (x113002.length : Int) then (if 0 ≤ x13 then (if 0 < (((rd_T24 x113002 x13).f0).size : Int) then (if (bt ((rd_T24 x113002 x13).f0) 0) = 64 then (remitterlaw10_draw.l1 k x1 x7 x8 (wrap64 (x13 + 1)) x113000 x113001 x113002) else ((remitterlaw10_draw.f k ((rd_T24 x113002 x13).f0) ((rd_T24 x113002 x13).f1) ((rd_T24 x113002 x13).f2) x1 false).bind fun t120 => (if x8.size + t120.size ≤ 9223372036854775807 then (if (Go.bits .and .u8 x1 64) = 64 then (if (x8 ++ t120).size + 3 ≤ 9223372036854775807 then (remitterlaw10_draw.l1 k x1 x7 ((x8 ++ t120) ++ (⟨#[32, 10, 32]⟩ : ByteArray)) (wrap64 (x13 + 1)) x113000 x113001 x113002) else (none)) else (remitterlaw10_draw.l1 k x1 x7 (x8 ++ t120) (wrap64 (x13 + 1)) x113000 x113001 x113002)) else (none)))) else (none)) else (none)) else (if x8.size + 2 ≤ 9223372036854775807 then (if (x8 ++ (⟨#[60, 47]⟩ : ByteArray)).size + x7.size ≤ 9223372036854775807 then (if ((x8 ++ (⟨#[60, 47]⟩ : ByteArray)) ++ x7).size + 1 ≤ 9223372036854775807 then (some (((x8 ++ (⟨#[60, 47]⟩ : ByteArray)) ++ x7) ++ (⟨#[62]⟩ : ByteArray))) else (none)) else (none)) else (none))
def remitterlaw10_draw.f : Nat → ByteArray → ByteArray → List (S24) → Int → Bool → Option (ByteArray)
 | 0, _, _, _, _, _ => none
 | k + 1, a0_0, a0_1, l0_2, a1, a2 => if (Go.bits .and .u8 a1 1) = 1 then (if 2 + a0_0.size ≤ 9223372036854775807 then (remitterlaw10_draw.j0 k a1 a2 ((⟨#[112, 58]⟩ : ByteArray) ++ a0_0) a0_0 a0_1 l0_2) else (none)) else (remitterlaw10_draw.j0 k a1 a2 a0_0 a0_0 a0_1 l0_2)
end
def remitterlaw10_draw.T19 : Bool × List (List Nat × List Nat) := (true, [([], []), ([0], [0]), ([], []), ([2], [2]), ([3], [3]), ([1, 4], [1, 4]), ([5], [5]), ([], []), ([6, 7], [6, 7]), ([], []), ([9], [9]), ([10], [10]), ([8, 11], [8, 11]), ([], []), ([12, 13], [12, 13]), ([14, 11, 0, 1, 2, 3, 4, 5, 6, 7, 8, 9, 10, 11, 12, 13, 14], [0, 14])])
def remitterlaw10_draw.B19 : List Nat := [0, 1, 0, 4, 12, 31, 63, 0, 255, 0, 512, 1536, 4095, 0, 16383, 32767]
theorem remitterlaw10_draw.tab19 : rtab .any (opsOf Tryz.f39 19) = remitterlaw10_draw.T19 := by kernel_rfl
theorem remitterlaw10_draw.bits19 : waitsOk remitterlaw10_draw.T19.2 remitterlaw10_draw.B19 = true := by kernel_rfl
set_option maxHeartbeats 8000000 in
set_option maxRecDepth 100000 in
theorem remitterlaw10_draw.calls (k : Nat) : ∀ (a0_0 : ByteArray) (a0_1 : ByteArray) (A0_2 : Option Addr) (c0_2 : Nat) (l0_2 : List (S24)) (a1 : Int) (a2 : Bool) (r : ByteArray) (w : World) (hr0_2 : Kd.C k24 w A0_2 l0_2.length l0_2) (hc0_2 : l0_2.length ≤ c0_2) (h : remitterlaw10_draw.f k a0_0 a0_1 l0_2 a1 a2 = some r) (hG : Glob w),
  Calls Tryz.prog 39 #[.agg #[.string a0_0, .string a0_1, .slice A0_2 l0_2.length c0_2], .int .u8 a1, .bool a2] w fun e w' => e = .returned (.string r) ∧ Below w.heap.size w w' := by
 induction k using Nat.strongRecOn with
 | _ k ih =>
 intro a0_0 a0_1 A0_2 c0_2 l0_2 a1 a2 r w hr0_2 hc0_2 h hG
 cases k with
 | zero => exact absurd h (by simp [remitterlaw10_draw.f])
 | succ k =>
 simp only [remitterlaw10_draw.f] at h
 have hu24 := Tryz.underlying24
 have HR0_2 := Aside0.mk hr0_2
 have HC0_2 := Aside0.mk hc0_2
 clear hr0_2 hc0_2
 have HB := Aside0.mk (Below.refl w.heap.size w)
 have H : (if (Go.bits .and .u8 a1 1) = 1 then (if 2 + a0_0.size ≤ 9223372036854775807 then (remitterlaw10_draw.j0 k a1 a2 ((⟨#[112, 58]⟩ : ByteArray) ++ a0_0) a0_0 a0_1 l0_2) else (none)) else (remitterlaw10_draw.j0 k a1 a2 a0_0 a0_0 a0_1 l0_2)) = some r := h
 clear h
 have HC4 := Aside0.mk H
 clear H
 go_enter Tryz.func39, Tryz.ntmps39
 go_upto_if 18 with (first | ((with_reducible refine gate_dst (N := 3) rfl ?_); refine box_event ?hg (N := 3) ?hd (cs := #[.string a0_0, .string a0_1, .slice A0_2 l0_2.length c0_2]) (t := 24) ?hr ?_; (case hd => rfl); (case hg => rfl); (case hr => first | (go_simp; done) | (go_simp; rfl)); intro gb112 hg w5 hbox hb; have n0_ := Aside0.mk (below_step (by repeat (first | (with_reducible first | exact HB.out | apply below_alloc | apply pw_below_drewN | apply below_drew1) | exact HB.out)) hb); have n1_ := Aside0.mk (hbox); have n2_ := Aside0.mk ((by rw [hg]; exact (below_size (by repeat (first | (with_reducible first | exact HB.out | apply below_alloc | apply pw_below_drewN | apply below_drew1) | exact HB.out))) : w.heap.size ≤ gb112)); have n3_ := Aside0.mk ((by rw [hg]; exact (below_size (by repeat (first | (with_reducible first | exact HB.out | apply below_alloc | apply pw_below_drewN | apply below_drew1) | exact HB.out))) : w.heap.size ≤ gb112)); clear HB; have HB := n0_; have BK112 := n1_; have GW112 := n2_; have GE112 := n3_; clear n0_ n1_ n2_ n3_; clear hb hbox hg; have hcz6_0 : w5.cell? ⟨gb112, 0, none⟩ = some (.string a0_0) := (blk_cell BK112.out 0).trans rfl; have hcz6_1 : w5.cell? ⟨gb112, 1, none⟩ = some (.string a0_1) := (blk_cell BK112.out 1).trans rfl; have hcz6_2 : w5.cell? ⟨gb112, 2, none⟩ = some (.slice A0_2 l0_2.length c0_2) := (blk_cell BK112.out 2).trans rfl; have hfz6_0 := blk_frozen BK112.out 0; have hfz6_1 := blk_frozen BK112.out 1; have hfz6_2 := blk_frozen BK112.out 2))
 (try simp only [Act.put, List.setIfInBounds_toArray, List.set_cons_zero, List.set_cons_succ])
 go_cut [7] (fun v7 wc => ∃ (kq : Nat) (x7_3 : ByteArray), v7 = .string x7_3 ∧ Aside0 (remitterlaw10_draw.j0 kq a1 a2 x7_3 a0_0 a0_1 l0_2 = some r) ∧ Aside0 (kq ≤ k) ∧ Aside0 (wc.heap[gb112]? = some (.cells #[.string a0_0, .string a0_1, (.slice A0_2 l0_2.length c0_2)] 24 (0, 0))) ∧ Aside0 (Below w.heap.size w wc))
 case first =>
  have H := HC4.out
  clear HC4
  by_cases c7 : (Go.bits .and .u8 a1 1) = 1
  ·
   rw [if_pos c7] at H
   have c7b0 : ((Go.bits .and .u8 a1 1) == 1) = true := beq_iff_eq.mpr c7
   have c7b1 : ((Go.bits .and .u8 a1 1) != 1) = false := bne_eq_false_iff_eq.mpr c7
   clear c7
   (first | rw [c7b0] | (simp only [i64_w, i32_w]; rw [c7b0]) | skip)
   by_cases c8 : 2 + a0_0.size ≤ 9223372036854775807
   ·
    rw [if_pos c8] at H
    have c8b0 := eq_true c8
    have c8b1 : decide (2 + a0_0.size ≤ 9223372036854775807) = true := decide_eq_true c8
    try have c8b2 : (9223372036854775807 < 2 + a0_0.size) = False := eq_false (Nat.not_lt.2 c8)
    try (have c8b3 := c8b2; simp only [ByteArray.size_append, ByteArray.size_extract, Nat.min_self] at c8b3)
    have H' := Aside0.mk H
    clear H
    go_wp2
    go_meet
    case rel => exact ⟨_, ((⟨#[112, 58]⟩ : ByteArray) ++ a0_0), rf3, H', ⟨by first | omega | exact Nat.le_refl _⟩, ⟨by (with_reducible repeat (first | refine blk_drewN ?_ _ | refine blk_drew ?_ | refine blk_alloc ?_ _)); exact BK112.out⟩, ⟨by repeat (first | (with_reducible first | exact HB.out | apply below_alloc | apply pw_below_drewN | apply below_drew1 | refine below_set ?_ GE112.out) | exact HB.out)⟩⟩
   ·
    rw [if_neg c8] at H
    exact absurd H (by simp)
  ·
   rw [if_neg c7] at H
   have c7b0 : ((Go.bits .and .u8 a1 1) == 1) = false := beq_eq_false_iff_ne.mpr c7
   have c7b1 : ((Go.bits .and .u8 a1 1) != 1) = true := bne_iff_ne.mpr c7
   (first | rw [c7b0] | (simp only [i64_w, i32_w]; rw [c7b0]) | skip)
   have H' := Aside0.mk H
   clear H
   go_wp2
   go_meet
   case rel => exact ⟨_, (a0_0), rf3, H', ⟨by first | omega | exact Nat.le_refl _⟩, ⟨by (with_reducible repeat (first | refine blk_drewN ?_ _ | refine blk_drew ?_ | refine blk_alloc ?_ _)); exact BK112.out⟩, ⟨by repeat (first | (with_reducible first | exact HB.out | apply below_alloc | apply pw_below_drewN | apply below_drew1 | refine below_set ?_ GE112.out) | exact HB.out)⟩⟩
 case rest =>
  clear HC4
  try clear c7
  try clear c7b0
  try clear c7b1
  try clear c8
  try clear c8b0
  try clear c8b1
  try clear c8b2
  try clear hcz6_0
  try clear hcz6_1
  try clear hcz6_2
  try clear hfz6_0
  try clear hfz6_1
  try clear hfz6_2
  obtain ⟨kq, x7_3, rfl, HA, HJ3, BK112, HB⟩ := hcut
  cases kq with
  | zero => exact absurd HA.out (by simp [remitterlaw10_draw.j0])
  | succ kj3 =>
   have H := HA.out
   clear HA
   simp only [remitterlaw10_draw.j0] at H
   by_cases c9 : 1 + x7_3.size ≤ 9223372036854775807
   ·
    rw [if_pos c9] at H
    have c9b0 := eq_true c9
    have c9b1 : decide (1 + x7_3.size ≤ 9223372036854775807) = true := decide_eq_true c9
    try have c9b2 : (9223372036854775807 < 1 + x7_3.size) = False := eq_false (Nat.not_lt.2 c9)
    try (have c9b3 := c9b2; simp only [ByteArray.size_append, ByteArray.size_extract, Nat.min_self] at c9b3)
    have HC10 := Aside0.mk H
    clear H
    go_upto_region 5 with (fail)
    go_cut [28] (fun v28 wc => ∃ (kq : Nat) (x28_9 : Bool), v28 = .bool x28_9 ∧ Aside0 (remitterlaw10_draw.j1 kq a1 a2 x7_3 ((⟨#[60]⟩ : ByteArray) ++ x7_3) x28_9 a0_0 a0_1 l0_2 = some r) ∧ Aside0 (kq ≤ kj3) ∧ Aside0 (wc.heap[gb112]? = some (.cells #[.string a0_0, .string a0_1, (.slice A0_2 l0_2.length c0_2)] 24 (0, 0))) ∧ Aside0 (Below w.heap.size w wc))
    case first =>
     have H := HC10.out
     clear HC10
     by_cases c11 : a2 = true
     ·
      subst c11
      have H1 : (remitterlaw10_draw.j1 kj3 a1 true x7_3 ((⟨#[60]⟩ : ByteArray) ++ x7_3) ((Go.bits .and .u8 a1 1) == 1) a0_0 a0_1 l0_2) = some r := by rw [if_pos rfl] at H; exact H
      clear H
      have H := H1
      clear H1
      have H' := Aside0.mk H
      clear H
      go_wp2
      go_meet
      case rel => exact ⟨_, (((Go.bits .and .u8 a1 1) == 1)), rf3, H', ⟨by have := HJ3.out; first | omega | exact Nat.le_refl _⟩, ⟨by (with_reducible repeat (first | refine blk_drewN ?_ _ | refine blk_drew ?_ | refine blk_alloc ?_ _)); exact BK112.out⟩, ⟨by repeat (first | (with_reducible first | exact HB.out | apply below_alloc | apply pw_below_drewN | apply below_drew1 | refine below_set ?_ GE112.out) | exact HB.out)⟩⟩
     ·
      replace c11 := Bool.eq_false_iff.mpr c11
      subst c11
      have H1 : (remitterlaw10_draw.j1 kj3 a1 false x7_3 ((⟨#[60]⟩ : ByteArray) ++ x7_3) false a0_0 a0_1 l0_2) = some r := by rw [if_neg (show ¬ (false = true) by decide)] at H; exact H
      clear H
      have H := H1
      clear H1
      have H' := Aside0.mk H
      clear H
      go_wp2
      go_meet
      case rel => exact ⟨_, (false), rf3, H', ⟨by have := HJ3.out; first | omega | exact Nat.le_refl _⟩, ⟨by (with_reducible repeat (first | refine blk_drewN ?_ _ | refine blk_drew ?_ | refine blk_alloc ?_ _)); exact BK112.out⟩, ⟨by repeat (first | (with_reducible first | exact HB.out | apply below_alloc | apply pw_below_drewN | apply below_drew1 | refine below_set ?_ GE112.out) | exact HB.out)⟩⟩
    case rest =>
     clear HC10
     try clear c7
     try clear c7b0
     try clear c7b1
     try clear c8
     try clear c8b0
     try clear c8b1
     try clear c8b2
     try clear c9
     try clear c9b0
     try clear c9b1
     try clear c9b2
     try clear c11
     try clear hcz6_0
     try clear hcz6_1
     try clear hcz6_2
     try clear hfz6_0
     try clear hfz6_1
     try clear hfz6_2
     obtain ⟨kq, x28_9, rfl, HA, HJ9, BK112, HB⟩ := hcut
     cases kq with
     | zero => exact absurd HA.out (by simp [remitterlaw10_draw.j1])
     | succ kj9 =>
      have H := HA.out
      clear HA
      simp only [remitterlaw10_draw.j1] at H
      have HC12 := Aside0.mk H
      clear H
      go_upto_if 28 with (fail)
      go_cut [8] (fun v8 wc => ∃ (kq : Nat) (x8_11 : ByteArray), v8 = .string x8_11 ∧ Aside0 (remitterlaw10_draw.j2 kq a1 x7_3 x8_11 a0_0 a0_1 l0_2 = some r) ∧ Aside0 (kq ≤ kj9) ∧ Aside0 (wc.heap[gb112]? = some (.cells #[.string a0_0, .string a0_1, (.slice A0_2 l0_2.length c0_2)] 24 (0, 0))) ∧ Aside0 (Below w.heap.size w wc))
      case first =>
       have H := HC12.out
       clear HC12
       by_cases c13 : x28_9 = true
       ·
        subst c13
        have H1 : (if ((⟨#[60]⟩ : ByteArray) ++ x7_3).size + 12 ≤ 9223372036854775807 then (remitterlaw10_draw.j2 kj9 a1 x7_3 (((⟨#[60]⟩ : ByteArray) ++ x7_3) ++ (⟨#[32, 120, 109, 108, 110, 115, 58, 112, 61, 34, 117, 34]⟩ : ByteArray)) a0_0 a0_1 l0_2) else (none)) = some r := by rw [if_pos rfl] at H; exact H
        clear H
        have H := H1
        clear H1
        by_cases c14 : ((⟨#[60]⟩ : ByteArray) ++ x7_3).size + 12 ≤ 9223372036854775807
        ·
         rw [if_pos c14] at H
         have c14b0 := eq_true c14
         have c14b1 : decide (((⟨#[60]⟩ : ByteArray) ++ x7_3).size + 12 ≤ 9223372036854775807) = true := decide_eq_true c14
         try have c14b2 : (9223372036854775807 < ((⟨#[60]⟩ : ByteArray) ++ x7_3).size + 12) = False := eq_false (Nat.not_lt.2 c14)
         try (have c14b3 := c14b2; simp only [ByteArray.size_append, ByteArray.size_extract, Nat.min_self, show (⟨#[60]⟩ : ByteArray).size = 1 from rfl] at c14b3)
         have H' := Aside0.mk H
         clear H
         go_wp2
         go_meet
         case rel => exact ⟨_, (((⟨#[60]⟩ : ByteArray) ++ x7_3) ++ (⟨#[32, 120, 109, 108, 110, 115, 58, 112, 61, 34, 117, 34]⟩ : ByteArray)), rf3, H', ⟨by have := HJ3.out; have := HJ9.out; first | omega | exact Nat.le_refl _⟩, ⟨by (with_reducible repeat (first | refine blk_drewN ?_ _ | refine blk_drew ?_ | refine blk_alloc ?_ _)); exact BK112.out⟩, ⟨by repeat (first | (with_reducible first | exact HB.out | apply below_alloc | apply pw_below_drewN | apply below_drew1 | refine below_set ?_ GE112.out) | exact HB.out)⟩⟩
        ·
         rw [if_neg c14] at H
         exact absurd H (by simp)
       ·
        replace c13 := Bool.eq_false_iff.mpr c13
        subst c13
        have H1 : (if a2 = true then (if ((⟨#[60]⟩ : ByteArray) ++ x7_3).size + 10 ≤ 9223372036854775807 then (remitterlaw10_draw.j2 kj9 a1 x7_3 (((⟨#[60]⟩ : ByteArray) ++ x7_3) ++ (⟨#[32, 120, 109, 108, 110, 115, 61, 39, 117, 39]⟩ : ByteArray)) a0_0 a0_1 l0_2) else (none)) else (remitterlaw10_draw.j2 kj9 a1 x7_3 ((⟨#[60]⟩ : ByteArray) ++ x7_3) a0_0 a0_1 l0_2)) = some r := by rw [if_neg (show ¬ (false = true) by decide)] at H; exact H
        clear H
        have H := H1
        clear H1
        by_cases c15 : a2 = true
        ·
         subst c15
         have H1 : (if ((⟨#[60]⟩ : ByteArray) ++ x7_3).size + 10 ≤ 9223372036854775807 then (remitterlaw10_draw.j2 kj9 a1 x7_3 (((⟨#[60]⟩ : ByteArray) ++ x7_3) ++ (⟨#[32, 120, 109, 108, 110, 115, 61, 39, 117, 39]⟩ : ByteArray)) a0_0 a0_1 l0_2) else (none)) = some r := by rw [if_pos rfl] at H; exact H
         clear H
         have H := H1
         clear H1
         by_cases c16 : ((⟨#[60]⟩ : ByteArray) ++ x7_3).size + 10 ≤ 9223372036854775807
         ·
          rw [if_pos c16] at H
          have c16b0 := eq_true c16
          have c16b1 : decide (((⟨#[60]⟩ : ByteArray) ++ x7_3).size + 10 ≤ 9223372036854775807) = true := decide_eq_true c16
          try have c16b2 : (9223372036854775807 < ((⟨#[60]⟩ : ByteArray) ++ x7_3).size + 10) = False := eq_false (Nat.not_lt.2 c16)
          try (have c16b3 := c16b2; simp only [ByteArray.size_append, ByteArray.size_extract, Nat.min_self, show (⟨#[60]⟩ : ByteArray).size = 1 from rfl] at c16b3)
          have H' := Aside0.mk H
          clear H
          go_wp2
          go_meet
          case rel => exact ⟨_, (((⟨#[60]⟩ : ByteArray) ++ x7_3) ++ (⟨#[32, 120, 109, 108, 110, 115, 61, 39, 117, 39]⟩ : ByteArray)), rf3, H', ⟨by have := HJ3.out; have := HJ9.out; first | omega | exact Nat.le_refl _⟩, ⟨by (with_reducible repeat (first | refine blk_drewN ?_ _ | refine blk_drew ?_ | refine blk_alloc ?_ _)); exact BK112.out⟩, ⟨by repeat (first | (with_reducible first | exact HB.out | apply below_alloc | apply pw_below_drewN | apply below_drew1 | refine below_set ?_ GE112.out) | exact HB.out)⟩⟩
         ·
          rw [if_neg c16] at H
          exact absurd H (by simp)
        ·
         replace c15 := Bool.eq_false_iff.mpr c15
         subst c15
         have H1 : (remitterlaw10_draw.j2 kj9 a1 x7_3 ((⟨#[60]⟩ : ByteArray) ++ x7_3) a0_0 a0_1 l0_2) = some r := by rw [if_neg (show ¬ (false = true) by decide)] at H; exact H
         clear H
         have H := H1
         clear H1
         have H' := Aside0.mk H
         clear H
         go_wp2
         go_meet
         case rel => exact ⟨_, (((⟨#[60]⟩ : ByteArray) ++ x7_3)), rf3, H', ⟨by have := HJ3.out; have := HJ9.out; first | omega | exact Nat.le_refl _⟩, ⟨by (with_reducible repeat (first | refine blk_drewN ?_ _ | refine blk_drew ?_ | refine blk_alloc ?_ _)); exact BK112.out⟩, ⟨by repeat (first | (with_reducible first | exact HB.out | apply below_alloc | apply pw_below_drewN | apply below_drew1 | refine below_set ?_ GE112.out) | exact HB.out)⟩⟩
      case rest =>
       clear HC12
       try clear c7
       try clear c7b0
       try clear c7b1
       try clear c8
       try clear c8b0
       try clear c8b1
       try clear c8b2
       try clear c9
       try clear c9b0
       try clear c9b1
       try clear c9b2
       try clear c11
       try clear c13
       try clear c14
       try clear c14b0
       try clear c14b1
       try clear c14b2
       try clear c15
       try clear c16
       try clear c16b0
       try clear c16b1
       try clear c16b2
       try clear hcz6_0
       try clear hcz6_1
       try clear hcz6_2
       try clear hfz6_0
       try clear hfz6_1
       try clear hfz6_2
       obtain ⟨kq, x8_11, rfl, HA, HJ11, BK112, HB⟩ := hcut
       cases kq with
       | zero => exact absurd HA.out (by simp [remitterlaw10_draw.j2])
       | succ kj11 =>
        have H := HA.out
        clear HA
        simp only [remitterlaw10_draw.j2] at H
        have H' := Aside0.mk H
        clear H
        go_wp2
        go_loopg [8, 9, 10] kj11 (fun kq v8 v9 v10 w' => ∃ (x8_4 : ByteArray) (x9_4 : Int) (x10_4 : Int), v8 = .string x8_4 ∧ v9 = .int .i64 x9_4 ∧ v10 = .int .i64 x10_4 ∧ Aside0 (remitterlaw10_draw.l0 kq a1 x7_3 x8_4 x9_4 x10_4 a0_0 a0_1 l0_2 = some r) ∧ Aside0 (kq ≤ kj11) ∧ Aside0 (w'.heap[gb112]? = some (.cells #[.string a0_0, .string a0_1, (.slice A0_2 l0_2.length c0_2)] 24 (0, 0))) ∧ Aside0 (Below w.heap.size w w'))
        case atStart => exact ⟨(x8_11), (0), (0), rf3, rf3, rf3, H', ⟨Nat.le_refl _⟩, ⟨by (with_reducible repeat (first | refine blk_drewN ?_ _ | refine blk_drew ?_ | refine blk_alloc ?_ _)); exact BK112.out⟩, ⟨by repeat (first | (with_reducible first | exact HB.out | apply below_alloc | apply pw_below_drewN | apply below_drew1 | refine below_set ?_ GE112.out) | exact HB.out)⟩⟩
        case round =>
         clear H'
         try clear c7
         try clear c7b0
         try clear c7b1
         try clear c8
         try clear c8b0
         try clear c8b1
         try clear c8b2
         try clear c9
         try clear c9b0
         try clear c9b1
         try clear c9b2
         try clear c11
         try clear c13
         try clear c14
         try clear c14b0
         try clear c14b1
         try clear c14b2
         try clear c15
         try clear c16
         try clear c16b0
         try clear c16b1
         try clear c16b2
         try clear hcz6_0
         try clear hcz6_1
         try clear hcz6_2
         try clear hfz6_0
         try clear hfz6_1
         try clear hfz6_2
         obtain ⟨x8_4, x9_4, x10_4, rfl, rfl, rfl, HA, HK4, BK112, HB⟩ := hrel
         cases gk with
         | zero => exact absurd HA.out (by simp [remitterlaw10_draw.l0])
         | succ k4 =>
          have H := HA.out
          clear HA
          simp only [remitterlaw10_draw.l0] at H
          by_cases c17 : x10_4 < (l0_2.length : Int)
          ·
           rw [if_pos c17] at H
           have c17b0 : decide (x10_4 < (l0_2.length : Int)) = true := decide_eq_true c17
           clear c17
           by_cases c18 : 0 ≤ x10_4
           ·
            rw [if_pos c18] at H
            have c18b0 : decide (0 ≤ x10_4) = true := decide_eq_true c18
            clear c18
            by_cases c19 : 0 < (((rd_T24 l0_2 x10_4).f0).size : Int)
            ·
             rw [if_pos c19] at H
             have c19b0 : decide (0 < (((rd_T24 l0_2 x10_4).f0).size : Int)) = true := decide_eq_true c19
             have c19b1 : decide (0 < ((rd_T24 l0_2 x10_4).f0).size) = true := decide_eq_true (by omega)
             clear c19
             by_cases c21 : (bt ((rd_T24 l0_2 x10_4).f0) 0) = 64
             ·
              rw [if_pos c21] at H
              have c21b0 : ((bt ((rd_T24 l0_2 x10_4).f0) 0) == 64) = true := beq_iff_eq.mpr c21
              have c21b1 : ((bt ((rd_T24 l0_2 x10_4).f0) 0) != 64) = false := bne_eq_false_iff_eq.mpr c21
              clear c21
              by_cases c22 : (Go.bits .and .u8 a1 2) = 2
              ·
               rw [if_pos c22] at H
               have c22b0 : ((Go.bits .and .u8 a1 2) == 2) = true := beq_iff_eq.mpr c22
               have c22b1 : ((Go.bits .and .u8 a1 2) != 2) = false := bne_eq_false_iff_eq.mpr c22
               clear c22
               by_cases c23 : x8_4.size + 1 ≤ 9223372036854775807
               ·
                rw [if_pos c23] at H
                have c23b0 := eq_true c23
                have c23b1 : decide (x8_4.size + 1 ≤ 9223372036854775807) = true := decide_eq_true c23
                try have c23b2 : (9223372036854775807 < x8_4.size + 1) = False := eq_false (Nat.not_lt.2 c23)
                try (have c23b3 := c23b2; simp only [ByteArray.size_append, ByteArray.size_extract, Nat.min_self] at c23b3)
                by_cases c24 : 1 ≤ (((rd_T24 l0_2 x10_4).f0).size : Int)
                ·
                 rw [if_pos c24] at H
                 have c24b0 := eq_true c24
                 have c24b1 : decide (1 ≤ (((rd_T24 l0_2 x10_4).f0).size : Int)) = true := decide_eq_true c24
                 clear c24
                 by_cases c25 : (x8_4 ++ (⟨#[32]⟩ : ByteArray)).size + (((rd_T24 l0_2 x10_4).f0).extract 1 ((rd_T24 l0_2 x10_4).f0).size).size ≤ 9223372036854775807
                 ·
                  rw [if_pos c25] at H
                  have c25b0 := eq_true c25
                  have c25b1 : decide ((x8_4 ++ (⟨#[32]⟩ : ByteArray)).size + (((rd_T24 l0_2 x10_4).f0).extract 1 ((rd_T24 l0_2 x10_4).f0).size).size ≤ 9223372036854775807) = true := decide_eq_true c25
                  try have c25b2 : (9223372036854775807 < (x8_4 ++ (⟨#[32]⟩ : ByteArray)).size + (((rd_T24 l0_2 x10_4).f0).extract 1 ((rd_T24 l0_2 x10_4).f0).size).size) = False := eq_false (Nat.not_lt.2 c25)
                  try (have c25b3 := c25b2; simp only [ByteArray.size_append, ByteArray.size_extract, Nat.min_self, show (⟨#[32]⟩ : ByteArray).size = 1 from rfl] at c25b3)
                  by_cases c26 : ((x8_4 ++ (⟨#[32]⟩ : ByteArray)) ++ (((rd_T24 l0_2 x10_4).f0).extract 1 ((rd_T24 l0_2 x10_4).f0).size)).size + 1 ≤ 9223372036854775807
                  ·
                   rw [if_pos c26] at H
                   have c26b0 := eq_true c26
                   have c26b1 : decide (((x8_4 ++ (⟨#[32]⟩ : ByteArray)) ++ (((rd_T24 l0_2 x10_4).f0).extract 1 ((rd_T24 l0_2 x10_4).f0).size)).size + 1 ≤ 9223372036854775807) = true := decide_eq_true c26
                   try have c26b2 : (9223372036854775807 < ((x8_4 ++ (⟨#[32]⟩ : ByteArray)) ++ (((rd_T24 l0_2 x10_4).f0).extract 1 ((rd_T24 l0_2 x10_4).f0).size)).size + 1) = False := eq_false (Nat.not_lt.2 c26)
                   try (have c26b3 := c26b2; simp only [ByteArray.size_append, ByteArray.size_extract, Nat.min_self, show (⟨#[32]⟩ : ByteArray).size = 1 from rfl] at c26b3)
                   by_cases c27 : (((x8_4 ++ (⟨#[32]⟩ : ByteArray)) ++ (((rd_T24 l0_2 x10_4).f0).extract 1 ((rd_T24 l0_2 x10_4).f0).size)) ++ (⟨#[61]⟩ : ByteArray)).size + 1 ≤ 9223372036854775807
                   ·
                    rw [if_pos c27] at H
                    have c27b0 := eq_true c27
                    have c27b1 : decide ((((x8_4 ++ (⟨#[32]⟩ : ByteArray)) ++ (((rd_T24 l0_2 x10_4).f0).extract 1 ((rd_T24 l0_2 x10_4).f0).size)) ++ (⟨#[61]⟩ : ByteArray)).size + 1 ≤ 9223372036854775807) = true := decide_eq_true c27
                    try have c27b2 : (9223372036854775807 < (((x8_4 ++ (⟨#[32]⟩ : ByteArray)) ++ (((rd_T24 l0_2 x10_4).f0).extract 1 ((rd_T24 l0_2 x10_4).f0).size)) ++ (⟨#[61]⟩ : ByteArray)).size + 1) = False := eq_false (Nat.not_lt.2 c27)
                    try (have c27b3 := c27b2; simp only [ByteArray.size_append, ByteArray.size_extract, Nat.min_self, show (⟨#[32]⟩ : ByteArray).size = 1 from rfl, show (⟨#[61]⟩ : ByteArray).size = 1 from rfl] at c27b3)
                    replace H := Option.bind_eq_some_iff.mp H
                    obtain ⟨t115, A280, H⟩ := H
                    replace H : (if ((((x8_4 ++ (⟨#[32]⟩ : ByteArray)) ++ (((rd_T24 l0_2 x10_4).f0).extract 1 ((rd_T24 l0_2 x10_4).f0).size)) ++ (⟨#[61]⟩ : ByteArray)) ++ (⟨#[39]⟩ : ByteArray)).size + t115.size ≤ 9223372036854775807 then (if (((((x8_4 ++ (⟨#[32]⟩ : ByteArray)) ++ (((rd_T24 l0_2 x10_4).f0).extract 1 ((rd_T24 l0_2 x10_4).f0).size)) ++ (⟨#[61]⟩ : ByteArray)) ++ (⟨#[39]⟩ : ByteArray)) ++ t115).size + 1 ≤ 9223372036854775807 then (remitterlaw10_draw.l0 k4 a1 x7_3 ((((((x8_4 ++ (⟨#[32]⟩ : ByteArray)) ++ (((rd_T24 l0_2 x10_4).f0).extract 1 ((rd_T24 l0_2 x10_4).f0).size)) ++ (⟨#[61]⟩ : ByteArray)) ++ (⟨#[39]⟩ : ByteArray)) ++ t115) ++ (⟨#[39]⟩ : ByteArray)) x9_4 (wrap64 (x10_4 + 1)) a0_0 a0_1 l0_2) else (none)) else (none)) = some r := H
                    have A28 := Aside0.mk A280
                    clear A280
                    by_cases c29 : ((((x8_4 ++ (⟨#[32]⟩ : ByteArray)) ++ (((rd_T24 l0_2 x10_4).f0).extract 1 ((rd_T24 l0_2 x10_4).f0).size)) ++ (⟨#[61]⟩ : ByteArray)) ++ (⟨#[39]⟩ : ByteArray)).size + t115.size ≤ 9223372036854775807
                    ·
                     rw [if_pos c29] at H
                     have c29b0 := eq_true c29
                     have c29b1 : decide (((((x8_4 ++ (⟨#[32]⟩ : ByteArray)) ++ (((rd_T24 l0_2 x10_4).f0).extract 1 ((rd_T24 l0_2 x10_4).f0).size)) ++ (⟨#[61]⟩ : ByteArray)) ++ (⟨#[39]⟩ : ByteArray)).size + t115.size ≤ 9223372036854775807) = true := decide_eq_true c29
                     try have c29b2 : (9223372036854775807 < ((((x8_4 ++ (⟨#[32]⟩ : ByteArray)) ++ (((rd_T24 l0_2 x10_4).f0).extract 1 ((rd_T24 l0_2 x10_4).f0).size)) ++ (⟨#[61]⟩ : ByteArray)) ++ (⟨#[39]⟩ : ByteArray)).size + t115.size) = False := eq_false (Nat.not_lt.2 c29)
                     try (have c29b3 := c29b2; simp only [ByteArray.size_append, ByteArray.size_extract, Nat.min_self, show (⟨#[32]⟩ : ByteArray).size = 1 from rfl, show (⟨#[39]⟩ : ByteArray).size = 1 from rfl, show (⟨#[61]⟩ : ByteArray).size = 1 from rfl] at c29b3)
                     by_cases c30 : (((((x8_4 ++ (⟨#[32]⟩ : ByteArray)) ++ (((rd_T24 l0_2 x10_4).f0).extract 1 ((rd_T24 l0_2 x10_4).f0).size)) ++ (⟨#[61]⟩ : ByteArray)) ++ (⟨#[39]⟩ : ByteArray)) ++ t115).size + 1 ≤ 9223372036854775807
                     ·
                      rw [if_pos c30] at H
                      have c30b0 := eq_true c30
                      have c30b1 : decide ((((((x8_4 ++ (⟨#[32]⟩ : ByteArray)) ++ (((rd_T24 l0_2 x10_4).f0).extract 1 ((rd_T24 l0_2 x10_4).f0).size)) ++ (⟨#[61]⟩ : ByteArray)) ++ (⟨#[39]⟩ : ByteArray)) ++ t115).size + 1 ≤ 9223372036854775807) = true := decide_eq_true c30
                      try have c30b2 : (9223372036854775807 < (((((x8_4 ++ (⟨#[32]⟩ : ByteArray)) ++ (((rd_T24 l0_2 x10_4).f0).extract 1 ((rd_T24 l0_2 x10_4).f0).size)) ++ (⟨#[61]⟩ : ByteArray)) ++ (⟨#[39]⟩ : ByteArray)) ++ t115).size + 1) = False := eq_false (Nat.not_lt.2 c30)
                      try (have c30b3 := c30b2; simp only [ByteArray.size_append, ByteArray.size_extract, Nat.min_self, show (⟨#[32]⟩ : ByteArray).size = 1 from rfl, show (⟨#[39]⟩ : ByteArray).size = 1 from rfl, show (⟨#[61]⟩ : ByteArray).size = 1 from rfl] at c30b3)
                      have H' := Aside0.mk H
                      clear H
                      have hcz31_0 : wr.cell? ⟨gb112, 0, none⟩ = some (.string a0_0) := (blk_cell BK112.out 0).trans rfl
                      have hcz31_1 : wr.cell? ⟨gb112, 1, none⟩ = some (.string a0_1) := (blk_cell BK112.out 1).trans rfl
                      have hcz31_2 : wr.cell? ⟨gb112, 2, none⟩ = some (.slice A0_2 l0_2.length c0_2) := (blk_cell BK112.out 2).trans rfl
                      have hfz31_0 := blk_frozen BK112.out 0
                      have hfz31_1 := blk_frozen BK112.out 1
                      have hfz31_2 := blk_frozen BK112.out 2
                      have p113 : 0 ≤ (x10_4 : Int) := of_decide_eq_true (by first | (with_reducible assumption) | assumption)
                      have q113 : x10_4 < (l0_2.length : Int) := of_decide_eq_true (by first | (with_reducible assumption) | assumption)
                      obtain ⟨ad113, A113_2, c113_2, e113, hx113_0, hx113_1, hx113_2, hl113_2, hi113_2⟩ := at_T24 HR0_2.out x10_4 p113 q113
                      cases e113
                      replace hx113_0 := (HB.out.cell (World.block_lt_of_cell? w _ hx113_0)).trans hx113_0
                      replace hx113_1 := (HB.out.cell (World.block_lt_of_cell? w _ hx113_1)).trans hx113_1
                      replace hx113_2 := (HB.out.cell (World.block_lt_of_cell? w _ hx113_2)).trans hx113_2
                      have HR113_2 := Aside0.mk hi113_2
                      have HC113_2 := Aside0.mk hl113_2
                      clear hi113_2 hl113_2
                      replace p113 := eq_true p113
                      replace q113 := eq_true q113
                      try go_wp2_with (first | ((with_reducible refine gate_dst (N := 11) rfl ?_); refine box_event ?hg (N := 11) ?hd (cs := #[.string (⟨#[]⟩ : ByteArray), .string (⟨#[]⟩ : ByteArray), .slice none 0 0]) (t := 24) ?hr ?_; (case hd => rfl); (case hg => rfl); (case hr => first | (go_simp; done) | (go_simp; rfl)); intro gb114 hg w32 hbox hb; have n0_ := Aside0.mk (blk_below (g := gb112) (o := .cells #[.string a0_0, .string a0_1, .slice (some ad113) l0_2.length c0_2] 24 (0, 0)) (by (with_reducible repeat (first | refine blk_drewN ?_ _ | refine blk_drew ?_ | refine blk_alloc ?_ _)); exact BK112.out) hb); have n1_ := Aside0.mk (below_step (by repeat (first | (with_reducible first | exact HB.out | apply below_alloc | apply pw_below_drewN | apply below_drew1 | refine below_set ?_ GE112.out) | exact HB.out)) hb); have n2_ := Aside0.mk (hbox); have n3_ := Aside0.mk ((by rw [hg]; exact (below_size (by repeat (first | (with_reducible first | exact HB.out | apply below_alloc | apply pw_below_drewN | apply below_drew1 | refine below_set ?_ GE112.out) | exact HB.out))) : w.heap.size ≤ gb114)); have n4_ := Aside0.mk ((by rw [hg]; exact (below_size (by repeat (first | (with_reducible first | exact HB.out | apply below_alloc | apply pw_below_drewN | apply below_drew1 | refine below_set ?_ GE112.out) | exact HB.out))) : w.heap.size ≤ gb114)); have n5_ := Aside0.mk ((by rw [hg]; exact Nat.ne_of_lt (blk_lt (g := gb112) (o := .cells #[.string a0_0, .string a0_1, .slice (some ad113) l0_2.length c0_2] 24 (0, 0)) (by (with_reducible repeat (first | refine blk_drewN ?_ _ | refine blk_drew ?_ | refine blk_alloc ?_ _)); exact BK112.out)) : gb112 ≠ gb114)); have n6_ := Aside0.mk ((by rw [hg]; exact Nat.ne_of_gt (blk_lt (g := gb112) (o := .cells #[.string a0_0, .string a0_1, .slice (some ad113) l0_2.length c0_2] 24 (0, 0)) (by (with_reducible repeat (first | refine blk_drewN ?_ _ | refine blk_drew ?_ | refine blk_alloc ?_ _)); exact BK112.out)) : gb114 ≠ gb112)); clear BK112; clear HB; have BK112 := n0_; have HB := n1_; have BK114 := n2_; have GW114 := n3_; have GE114 := n4_; have NB112_114 := n5_; have NB114_112 := n6_; clear n0_ n1_ n2_ n3_ n4_ n5_ n6_; clear hb hbox hg; have hnb33 := NB114_112.out; have hnc33 := NB112_114.out; have hcz34_0 : w32.cell? ⟨gb114, 0, none⟩ = some (.string (⟨#[]⟩ : ByteArray)) := (blk_cell BK114.out 0).trans rfl; have hcz34_1 : w32.cell? ⟨gb114, 1, none⟩ = some (.string (⟨#[]⟩ : ByteArray)) := (blk_cell BK114.out 1).trans rfl; have hcz34_2 : w32.cell? ⟨gb114, 2, none⟩ = some (.slice none 0 0) := (blk_cell BK114.out 2).trans rfl; have hfz34_0 := blk_frozen BK114.out 0; have hfz34_1 := blk_frozen BK114.out 1; have hfz34_2 := blk_frozen BK114.out 2; have p20 : 0 ≤ (0 : Int) := (by omega); have q20 : 0 < ((rd_T24 l0_2 x10_4).f0).size := (by have : (0 : Int) < (((rd_T24 l0_2 x10_4).f0).size : Int) := of_decide_eq_true (by first | (with_reducible assumption) | assumption); omega); have hx20 : ∀ h : 0 < ((rd_T24 l0_2 x10_4).f0).size, ((((rd_T24 l0_2 x10_4).f0)[0]'h).toNat : Int) = bt ((rd_T24 l0_2 x10_4).f0) 0 := bt_at ((rd_T24 l0_2 x10_4).f0) 0; clear p20; have qi20 : (0 < (((rd_T24 l0_2 x10_4).f0).size : Int)) = True := eq_true (of_decide_eq_true (by first | (with_reducible assumption) | assumption)); replace q20 := eq_true q20))
                      have n0_ : Aside0 ((((w32.setCell ⟨gb114, 0, none⟩ (.string ((rd_T24 l0_2 x10_4).f0))).setCell ⟨gb114, 1, none⟩ (.string ((rd_T24 l0_2 x10_4).f1))).setCell ⟨gb114, 2, none⟩ (.slice A113_2 ((rd_T24 l0_2 x10_4).f2).length c113_2)).heap[gb112]? = some (.cells #[.string a0_0, .string a0_1, .slice (some ad113) l0_2.length c0_2] 24 (0, 0))) := ⟨by (with_reducible repeat (first | refine blk_drewN ?_ _ | refine blk_drew ?_ | refine blk_alloc ?_ _)); refine blk_far ?_ NB112_114.out _; (with_reducible repeat (first | refine blk_drewN ?_ _ | refine blk_drew ?_ | refine blk_alloc ?_ _)); refine blk_far ?_ NB112_114.out _; (with_reducible repeat (first | refine blk_drewN ?_ _ | refine blk_drew ?_ | refine blk_alloc ?_ _)); refine blk_far ?_ NB112_114.out _; (with_reducible repeat (first | refine blk_drewN ?_ _ | refine blk_drew ?_ | refine blk_alloc ?_ _)); exact BK112.out⟩
                      have n1_ : Aside0 ((((w32.setCell ⟨gb114, 0, none⟩ (.string ((rd_T24 l0_2 x10_4).f0))).setCell ⟨gb114, 1, none⟩ (.string ((rd_T24 l0_2 x10_4).f1))).setCell ⟨gb114, 2, none⟩ (.slice A113_2 ((rd_T24 l0_2 x10_4).f2).length c113_2)).heap[gb114]? = some (.cells #[.string ((rd_T24 l0_2 x10_4).f0), .string ((rd_T24 l0_2 x10_4).f1), .slice A113_2 ((rd_T24 l0_2 x10_4).f2).length c113_2] 24 (0, 0))) := ⟨by (with_reducible repeat (first | refine blk_drewN ?_ _ | refine blk_drew ?_ | refine blk_alloc ?_ _)); refine blk_put (cs := #[.string ((rd_T24 l0_2 x10_4).f0), .string ((rd_T24 l0_2 x10_4).f1), .slice none 0 0]) ?_ 2 _ rfl; (with_reducible repeat (first | refine blk_drewN ?_ _ | refine blk_drew ?_ | refine blk_alloc ?_ _)); refine blk_put (cs := #[.string ((rd_T24 l0_2 x10_4).f0), .string (⟨#[]⟩ : ByteArray), .slice none 0 0]) ?_ 1 _ rfl; (with_reducible repeat (first | refine blk_drewN ?_ _ | refine blk_drew ?_ | refine blk_alloc ?_ _)); refine blk_put (cs := #[.string (⟨#[]⟩ : ByteArray), .string (⟨#[]⟩ : ByteArray), .slice none 0 0]) ?_ 0 _ rfl; (with_reducible repeat (first | refine blk_drewN ?_ _ | refine blk_drew ?_ | refine blk_alloc ?_ _)); exact BK114.out⟩
                      have n2_ : Aside0 (Below w.heap.size w (((w32.setCell ⟨gb114, 0, none⟩ (.string ((rd_T24 l0_2 x10_4).f0))).setCell ⟨gb114, 1, none⟩ (.string ((rd_T24 l0_2 x10_4).f1))).setCell ⟨gb114, 2, none⟩ (.slice A113_2 ((rd_T24 l0_2 x10_4).f2).length c113_2))) := ⟨by repeat (first | (with_reducible first | exact HB.out | apply below_alloc | apply pw_below_drewN | apply below_drew1 | refine below_set ?_ GE112.out | refine below_set ?_ GE114.out) | exact HB.out)⟩
                      (try clear BK112)
                      (try clear BK114)
                      (try clear HB)
                      generalize (((w32.setCell ⟨gb114, 0, none⟩ (.string ((rd_T24 l0_2 x10_4).f0))).setCell ⟨gb114, 1, none⟩ (.string ((rd_T24 l0_2 x10_4).f1))).setCell ⟨gb114, 2, none⟩ (.slice A113_2 ((rd_T24 l0_2 x10_4).f2).length c113_2)) = w35 at n0_ n1_ n2_ ⊢
                      have BK112 := n0_
                      have BK114 := n1_
                      have HB := n2_
                      clear n0_ n1_ n2_
                      have n0_ := Aside0.mk (blk_drew BK112.out)
                      have n1_ := Aside0.mk (blk_drew BK114.out)
                      have n2_ := Aside0.mk (below_drew1 HB.out)
                      clear BK112
                      clear BK114
                      clear HB
                      have BK112 := n0_
                      have BK114 := n1_
                      have HB := n2_
                      clear n0_ n1_ n2_
                      refine start_ (n := 16) (S := fun w' => w'.cell? ⟨gb114, 0, none⟩ = some (.string ((rd_T24 l0_2 x10_4).f0)) ∧ w'.cell? ⟨gb114, 1, none⟩ = some (.string ((rd_T24 l0_2 x10_4).f1)) ∧ w'.cell? ⟨gb114, 2, none⟩ = some (.slice A113_2 ((rd_T24 l0_2 x10_4).f2).length c113_2)) (ds := []) (ms5 0 16) (by kernel_rfl) rfl rfl ⟨(blk_cell BK114.out 0).trans rfl, (blk_cell BK114.out 1).trans rfl, (blk_cell BK114.out 2).trans rfl⟩ (fun hHeld => ?_); refine with_tabW remitterlaw10_draw.tab19 remitterlaw10_draw.bits19 (fun HT_ HW_ => ?_)
                      generalize w35.drew = w36 at BK112 BK114 HB hHeld ⊢
                      refine pure_ (i := 0) (N := some 55) (v := ?_) (a' := ?_) (ms5 1 15) rfl rfl (any_of HT_.out (by kernel_rfl)) (fun _ _ _ h => h) (Or.inl ⟨by rfl, ?_⟩) ?_ ?_
                      rotate_left
                      ·
                       intro w'
                       go_simp
                       with_reducible rfl
                      rotate_left
                      ·
                       go_simp
                       rfl
                      refine pure_ (i := 1) (N := some 56) (v := ?_) (a' := ?_) (ms5 2 14) rfl rfl (any_of HT_.out (by kernel_rfl)) (fun _ _ _ h => h) (Or.inl ⟨by rfl, ?_⟩) ?_ ?_
                      rotate_left
                      ·
                       intro w'
                       go_simp
                       with_reducible rfl
                      rotate_left
                      ·
                       go_simp
                       rfl
                      refine pure_ (i := 2) (N := some 57) (v := ?_) (a' := ?_) (ms5 3 13) rfl rfl (any_of HT_.out (by kernel_rfl)) (fun _ _ _ h => h) (Or.inl ⟨by rfl, ?_⟩) ?_ ?_
                      rotate_left
                      ·
                       intro w'
                       go_simp
                       with_reducible rfl
                      rotate_left
                      ·
                       go_simp
                       rfl
                      refine pure_ (i := 7) (N := some 62) (v := ?_) (a' := ?_) #[true, true, true, false, false, false, false, true, false, false, false, false, false, false, false, false] rfl rfl (any_of HT_.out (by kernel_rfl)) (fun _ _ _ h => h) (Or.inl ⟨by rfl, ?_⟩) ?_ ?_
                      rotate_left
                      ·
                       intro w'
                       go_simp
                       with_reducible rfl
                      rotate_left
                      ·
                       go_simp
                       rfl
                      refine pure_ (i := 9) (N := some 64) (v := ?_) (a' := ?_) #[true, true, true, false, false, false, false, true, false, true, false, false, false, false, false, false] rfl rfl (any_of HT_.out (by kernel_rfl)) (fun _ _ _ h => h) (Or.inl ⟨by rfl, ?_⟩) ?_ ?_
                      rotate_left
                      ·
                       intro w'
                       go_simp
                       with_reducible rfl
                      rotate_left
                      ·
                       go_simp
                       rfl
                      refine pure_ (i := 13) (N := some 68) (v := ?_) (a' := ?_) #[true, true, true, false, false, false, false, true, false, true, false, false, false, true, false, false] rfl rfl (any_of HT_.out (by kernel_rfl)) (fun _ _ _ h => h) (Or.inl ⟨by rfl, ?_⟩) ?_ ?_
                      rotate_left
                      ·
                       intro w'
                       go_simp
                       with_reducible rfl
                      rotate_left
                      ·
                       go_simp
                       rfl
                      refine take_ (i := 3) (N := some 58) (v := ?_) (a' := ?_) #[true, true, true, true, false, false, false, true, false, true, false, false, false, true, false, false] rfl rfl (take_ofW HT_.out HW_.out (by kernel_rfl)) (fun _ _ _ h => h) (Or.inl ⟨by rfl, ?_⟩) hHeld ?_ ?_
                      rotate_left
                      ·
                       rintro w' ⟨s0, s1, s2⟩
                       go_simp
                       with_reducible rfl
                      rotate_left
                      ·
                       go_simp
                       rfl
                      refine pure_ (i := 4) (N := some 59) (v := ?_) (a' := ?_) #[true, true, true, true, true, false, false, true, false, true, false, false, false, true, false, false] rfl rfl (any_of HT_.out (by kernel_rfl)) (fun _ _ _ h => h) (Or.inl ⟨by rfl, ?_⟩) ?_ ?_
                      rotate_left
                      ·
                       intro w'
                       go_simp
                       with_reducible rfl
                      rotate_left
                      ·
                       go_simp
                       rfl
                      refine pure_ (i := 5) (N := some 60) (v := ?_) (a' := ?_) #[true, true, true, true, true, true, false, true, false, true, false, false, false, true, false, false] rfl rfl (any_of HT_.out (by kernel_rfl)) (fun _ _ _ h => h) (Or.inl ⟨by rfl, ?_⟩) ?_ ?_
                      rotate_left
                      ·
                       intro w'
                       go_simp
                       with_reducible rfl
                      rotate_left
                      ·
                       go_simp
                       rfl
                      refine pure_ (i := 6) (N := some 61) (v := ?_) (a' := ?_) #[true, true, true, true, true, true, true, true, false, true, false, false, false, true, false, false] rfl rfl (any_of HT_.out (by kernel_rfl)) (fun _ _ _ h => h) (Or.inl ⟨by rfl, ?_⟩) ?_ ?_
                      rotate_left
                      ·
                       intro w'
                       go_simp
                       with_reducible rfl
                      rotate_left
                      ·
                       go_simp
                       rfl
                      refine pure_ (i := 8) (N := some 63) (v := ?_) (a' := ?_) #[true, true, true, true, true, true, true, true, true, true, false, false, false, true, false, false] rfl rfl (any_of HT_.out (by kernel_rfl)) (fun _ _ _ h => h) (Or.inl ⟨by rfl, ?_⟩) ?_ ?_
                      rotate_left
                      ·
                       intro w'
                       go_simp
                       with_reducible rfl
                      rotate_left
                      ·
                       go_simp
                       rfl
                      refine take_ (i := 10) (N := some 65) (v := ?_) (a' := ?_) #[true, true, true, true, true, true, true, true, true, true, true, false, false, true, false, false] rfl rfl (take_ofW HT_.out HW_.out (by kernel_rfl)) (fun _ _ _ h => h) (Or.inl ⟨by rfl, ?_⟩) hHeld ?_ ?_
                      rotate_left
                      ·
                       rintro w' ⟨s0, s1, s2⟩
                       go_simp
                       with_reducible rfl
                      rotate_left
                      ·
                       go_simp
                       rfl
                      refine one_ (i := 11) (N := some 66) #[true, true, true, true, true, true, true, true, true, true, true, true, false, true, false, false] rfl rfl (one_of HT_.out (by kernel_rfl)) (by decide) (fun K hK => ?_)
                      refine goes_ Tryz.func31 (by kernel_rfl) rfl #[.string ((rd_T24 l0_2 x10_4).f1)] (by rfl) rfl rfl (by (try simp only [List.map_toArray, List.map_cons, List.map_nil]); first | done | rfl | (simp only [List.length_drop, List.length_take]; rfl)) ?_
                      with_reducible refine (text_Escape.calls ((rd_T24 l0_2 x10_4).f1) t115 _ A28.out (by first | exact hG | exact hG.below (by repeat (first | (with_reducible first | exact HB.out | apply below_alloc | apply pw_below_drewN | apply below_drew1) | exact HB.out)))).mono ?_
                      rintro e w37 ⟨rfl, hb⟩
                      refine ⟨_, rfl, ?_⟩
                      have n0_ := Aside0.mk (blk_below (g := gb112) (o := .cells #[.string a0_0, .string a0_1, .slice (some ad113) l0_2.length c0_2] 24 (0, 0)) (by (with_reducible repeat (first | refine blk_drewN ?_ _ | refine blk_drew ?_ | refine blk_alloc ?_ _)); exact BK112.out) hb)
                      have n1_ := Aside0.mk (blk_below (g := gb114) (o := .cells #[.string ((rd_T24 l0_2 x10_4).f0), .string ((rd_T24 l0_2 x10_4).f1), .slice A113_2 ((rd_T24 l0_2 x10_4).f2).length c113_2] 24 (0, 0)) (by (with_reducible repeat (first | refine blk_drewN ?_ _ | refine blk_drew ?_ | refine blk_alloc ?_ _)); exact BK114.out) hb)
                      have n2_ := Aside0.mk (below_step (by repeat (first | (with_reducible first | exact HB.out | apply below_alloc | apply pw_below_drewN | apply below_drew1 | refine below_set ?_ GE112.out | refine below_set ?_ GE114.out) | exact HB.out)) hb)
                      clear BK112
                      clear BK114
                      clear HB
                      have BK112 := n0_
                      have BK114 := n1_
                      have HB := n2_
                      clear n0_ n1_ n2_
                      (try clear hb)
                      (try clear hb2)
                      (try clear hk)
                      (try clear hi)
                      refine hK.out _ _ ⟨(blk_cell BK114.out 0).trans rfl, (blk_cell BK114.out 1).trans rfl, (blk_cell BK114.out 2).trans rfl⟩ (fun hHeld => ?_)
                      clear hK K
                      refine norm_ (a' := ?_) ?_ ?_
                      rotate_left
                      ·
                       show Act.put _ (some 66) _ = _
                       go_simp
                       rfl
                      refine pure_ (i := 12) (N := some 67) (v := ?_) (a' := ?_) (ms5 14 2) rfl rfl (any_of HT_.out (by kernel_rfl)) (fun _ _ _ h => h) (Or.inl ⟨by rfl, ?_⟩) ?_ ?_
                      rotate_left
                      ·
                       intro w'
                       go_simp
                       with_reducible rfl
                      rotate_left
                      ·
                       go_simp
                       rfl
                      refine pure_ (i := 14) (N := some 69) (v := ?_) (a' := ?_) (ms5 15 1) rfl rfl (any_of HT_.out (by kernel_rfl)) (fun _ _ _ h => h) (Or.inl ⟨by rfl, ?_⟩) ?_ ?_
                      rotate_left
                      ·
                       intro w'
                       go_simp
                       with_reducible rfl
                      rotate_left
                      ·
                       go_simp
                       rfl
                      refine pure_ (i := 15) (N := some 8) (v := ?_) (a' := ?_) (ms5 16 0) rfl rfl (any_of HT_.out (by kernel_rfl)) (fun _ _ _ h => h) (Or.inl ⟨by rfl, ?_⟩) ?_ ?_
                      rotate_left
                      ·
                       intro w'
                       go_simp
                       with_reducible rfl
                      rotate_left
                      ·
                       go_simp
                       rfl
                      refine done_ (done_of HT_.out (by kernel_rfl)) ?_
                      try go_wp2
                      go_roundg k4
                      case measure => have := HJ3.out; have := HJ9.out; have := HJ11.out; have := HK4.out; omega
                      case rel => exact ⟨((((((x8_4 ++ (⟨#[32]⟩ : ByteArray)) ++ (((rd_T24 l0_2 x10_4).f0).extract 1 ((rd_T24 l0_2 x10_4).f0).size)) ++ (⟨#[61]⟩ : ByteArray)) ++ (⟨#[39]⟩ : ByteArray)) ++ t115) ++ (⟨#[39]⟩ : ByteArray)), (x9_4), (wrap64 (x10_4 + 1)), rf3, rf3, rf3, H', ⟨by have := HJ3.out; have := HJ9.out; have := HJ11.out; have := HK4.out; omega⟩, ⟨by (with_reducible repeat (first | refine blk_drewN ?_ _ | refine blk_drew ?_ | refine blk_alloc ?_ _)); exact BK112.out⟩, ⟨by repeat (first | (with_reducible first | exact HB.out | apply below_alloc | apply pw_below_drewN | apply below_drew1 | refine below_set ?_ GE112.out | refine below_set ?_ GE114.out) | exact HB.out)⟩⟩
                     ·
                      rw [if_neg c30] at H
                      exact absurd H (by simp)
                    ·
                     rw [if_neg c29] at H
                     exact absurd H (by simp)
                   ·
                    rw [if_neg c27] at H
                    exact absurd H (by simp)
                  ·
                   rw [if_neg c26] at H
                   exact absurd H (by simp)
                 ·
                  rw [if_neg c25] at H
                  exact absurd H (by simp)
                ·
                 rw [if_neg c24] at H
                 exact absurd H (by simp)
               ·
                rw [if_neg c23] at H
                exact absurd H (by simp)
              ·
               rw [if_neg c22] at H
               have c22b0 : ((Go.bits .and .u8 a1 2) == 2) = false := beq_eq_false_iff_ne.mpr c22
               have c22b1 : ((Go.bits .and .u8 a1 2) != 2) = true := bne_iff_ne.mpr c22
               by_cases c38 : x8_4.size + 1 ≤ 9223372036854775807
               ·
                rw [if_pos c38] at H
                have c38b0 := eq_true c38
                have c38b1 : decide (x8_4.size + 1 ≤ 9223372036854775807) = true := decide_eq_true c38
                try have c38b2 : (9223372036854775807 < x8_4.size + 1) = False := eq_false (Nat.not_lt.2 c38)
                try (have c38b3 := c38b2; simp only [ByteArray.size_append, ByteArray.size_extract, Nat.min_self] at c38b3)
                by_cases c39 : 1 ≤ (((rd_T24 l0_2 x10_4).f0).size : Int)
                ·
                 rw [if_pos c39] at H
                 have c39b0 := eq_true c39
                 have c39b1 : decide (1 ≤ (((rd_T24 l0_2 x10_4).f0).size : Int)) = true := decide_eq_true c39
                 clear c39
                 by_cases c40 : (x8_4 ++ (⟨#[32]⟩ : ByteArray)).size + (((rd_T24 l0_2 x10_4).f0).extract 1 ((rd_T24 l0_2 x10_4).f0).size).size ≤ 9223372036854775807
                 ·
                  rw [if_pos c40] at H
                  have c40b0 := eq_true c40
                  have c40b1 : decide ((x8_4 ++ (⟨#[32]⟩ : ByteArray)).size + (((rd_T24 l0_2 x10_4).f0).extract 1 ((rd_T24 l0_2 x10_4).f0).size).size ≤ 9223372036854775807) = true := decide_eq_true c40
                  try have c40b2 : (9223372036854775807 < (x8_4 ++ (⟨#[32]⟩ : ByteArray)).size + (((rd_T24 l0_2 x10_4).f0).extract 1 ((rd_T24 l0_2 x10_4).f0).size).size) = False := eq_false (Nat.not_lt.2 c40)
                  try (have c40b3 := c40b2; simp only [ByteArray.size_append, ByteArray.size_extract, Nat.min_self, show (⟨#[32]⟩ : ByteArray).size = 1 from rfl] at c40b3)
                  by_cases c41 : ((x8_4 ++ (⟨#[32]⟩ : ByteArray)) ++ (((rd_T24 l0_2 x10_4).f0).extract 1 ((rd_T24 l0_2 x10_4).f0).size)).size + 1 ≤ 9223372036854775807
                  ·
                   rw [if_pos c41] at H
                   have c41b0 := eq_true c41
                   have c41b1 : decide (((x8_4 ++ (⟨#[32]⟩ : ByteArray)) ++ (((rd_T24 l0_2 x10_4).f0).extract 1 ((rd_T24 l0_2 x10_4).f0).size)).size + 1 ≤ 9223372036854775807) = true := decide_eq_true c41
                   try have c41b2 : (9223372036854775807 < ((x8_4 ++ (⟨#[32]⟩ : ByteArray)) ++ (((rd_T24 l0_2 x10_4).f0).extract 1 ((rd_T24 l0_2 x10_4).f0).size)).size + 1) = False := eq_false (Nat.not_lt.2 c41)
                   try (have c41b3 := c41b2; simp only [ByteArray.size_append, ByteArray.size_extract, Nat.min_self, show (⟨#[32]⟩ : ByteArray).size = 1 from rfl] at c41b3)
                   by_cases c42 : (((x8_4 ++ (⟨#[32]⟩ : ByteArray)) ++ (((rd_T24 l0_2 x10_4).f0).extract 1 ((rd_T24 l0_2 x10_4).f0).size)) ++ (⟨#[61]⟩ : ByteArray)).size + 1 ≤ 9223372036854775807
                   ·
                    rw [if_pos c42] at H
                    have c42b0 := eq_true c42
                    have c42b1 : decide ((((x8_4 ++ (⟨#[32]⟩ : ByteArray)) ++ (((rd_T24 l0_2 x10_4).f0).extract 1 ((rd_T24 l0_2 x10_4).f0).size)) ++ (⟨#[61]⟩ : ByteArray)).size + 1 ≤ 9223372036854775807) = true := decide_eq_true c42
                    try have c42b2 : (9223372036854775807 < (((x8_4 ++ (⟨#[32]⟩ : ByteArray)) ++ (((rd_T24 l0_2 x10_4).f0).extract 1 ((rd_T24 l0_2 x10_4).f0).size)) ++ (⟨#[61]⟩ : ByteArray)).size + 1) = False := eq_false (Nat.not_lt.2 c42)
                    try (have c42b3 := c42b2; simp only [ByteArray.size_append, ByteArray.size_extract, Nat.min_self, show (⟨#[32]⟩ : ByteArray).size = 1 from rfl, show (⟨#[61]⟩ : ByteArray).size = 1 from rfl] at c42b3)
                    replace H := Option.bind_eq_some_iff.mp H
                    obtain ⟨t116, A430, H⟩ := H
                    replace H : (if ((((x8_4 ++ (⟨#[32]⟩ : ByteArray)) ++ (((rd_T24 l0_2 x10_4).f0).extract 1 ((rd_T24 l0_2 x10_4).f0).size)) ++ (⟨#[61]⟩ : ByteArray)) ++ (⟨#[34]⟩ : ByteArray)).size + t116.size ≤ 9223372036854775807 then (if (((((x8_4 ++ (⟨#[32]⟩ : ByteArray)) ++ (((rd_T24 l0_2 x10_4).f0).extract 1 ((rd_T24 l0_2 x10_4).f0).size)) ++ (⟨#[61]⟩ : ByteArray)) ++ (⟨#[34]⟩ : ByteArray)) ++ t116).size + 1 ≤ 9223372036854775807 then (remitterlaw10_draw.l0 k4 a1 x7_3 ((((((x8_4 ++ (⟨#[32]⟩ : ByteArray)) ++ (((rd_T24 l0_2 x10_4).f0).extract 1 ((rd_T24 l0_2 x10_4).f0).size)) ++ (⟨#[61]⟩ : ByteArray)) ++ (⟨#[34]⟩ : ByteArray)) ++ t116) ++ (⟨#[34]⟩ : ByteArray)) x9_4 (wrap64 (x10_4 + 1)) a0_0 a0_1 l0_2) else (none)) else (none)) = some r := H
                    have A43 := Aside0.mk A430
                    clear A430
                    by_cases c44 : ((((x8_4 ++ (⟨#[32]⟩ : ByteArray)) ++ (((rd_T24 l0_2 x10_4).f0).extract 1 ((rd_T24 l0_2 x10_4).f0).size)) ++ (⟨#[61]⟩ : ByteArray)) ++ (⟨#[34]⟩ : ByteArray)).size + t116.size ≤ 9223372036854775807
                    ·
                     rw [if_pos c44] at H
                     have c44b0 := eq_true c44
                     have c44b1 : decide (((((x8_4 ++ (⟨#[32]⟩ : ByteArray)) ++ (((rd_T24 l0_2 x10_4).f0).extract 1 ((rd_T24 l0_2 x10_4).f0).size)) ++ (⟨#[61]⟩ : ByteArray)) ++ (⟨#[34]⟩ : ByteArray)).size + t116.size ≤ 9223372036854775807) = true := decide_eq_true c44
                     try have c44b2 : (9223372036854775807 < ((((x8_4 ++ (⟨#[32]⟩ : ByteArray)) ++ (((rd_T24 l0_2 x10_4).f0).extract 1 ((rd_T24 l0_2 x10_4).f0).size)) ++ (⟨#[61]⟩ : ByteArray)) ++ (⟨#[34]⟩ : ByteArray)).size + t116.size) = False := eq_false (Nat.not_lt.2 c44)
                     try (have c44b3 := c44b2; simp only [ByteArray.size_append, ByteArray.size_extract, Nat.min_self, show (⟨#[32]⟩ : ByteArray).size = 1 from rfl, show (⟨#[34]⟩ : ByteArray).size = 1 from rfl, show (⟨#[61]⟩ : ByteArray).size = 1 from rfl] at c44b3)
                     by_cases c45 : (((((x8_4 ++ (⟨#[32]⟩ : ByteArray)) ++ (((rd_T24 l0_2 x10_4).f0).extract 1 ((rd_T24 l0_2 x10_4).f0).size)) ++ (⟨#[61]⟩ : ByteArray)) ++ (⟨#[34]⟩ : ByteArray)) ++ t116).size + 1 ≤ 9223372036854775807
                     ·
                      rw [if_pos c45] at H
                      have c45b0 := eq_true c45
                      have c45b1 : decide ((((((x8_4 ++ (⟨#[32]⟩ : ByteArray)) ++ (((rd_T24 l0_2 x10_4).f0).extract 1 ((rd_T24 l0_2 x10_4).f0).size)) ++ (⟨#[61]⟩ : ByteArray)) ++ (⟨#[34]⟩ : ByteArray)) ++ t116).size + 1 ≤ 9223372036854775807) = true := decide_eq_true c45
                      try have c45b2 : (9223372036854775807 < (((((x8_4 ++ (⟨#[32]⟩ : ByteArray)) ++ (((rd_T24 l0_2 x10_4).f0).extract 1 ((rd_T24 l0_2 x10_4).f0).size)) ++ (⟨#[61]⟩ : ByteArray)) ++ (⟨#[34]⟩ : ByteArray)) ++ t116).size + 1) = False := eq_false (Nat.not_lt.2 c45)
                      try (have c45b3 := c45b2; simp only [ByteArray.size_append, ByteArray.size_extract, Nat.min_self, show (⟨#[32]⟩ : ByteArray).size = 1 from rfl, show (⟨#[34]⟩ : ByteArray).size = 1 from rfl, show (⟨#[61]⟩ : ByteArray).size = 1 from rfl] at c45b3)
                      have H' := Aside0.mk H
                      clear H
                      have hcz46_0 : wr.cell? ⟨gb112, 0, none⟩ = some (.string a0_0) := (blk_cell BK112.out 0).trans rfl
                      have hcz46_1 : wr.cell? ⟨gb112, 1, none⟩ = some (.string a0_1) := (blk_cell BK112.out 1).trans rfl
                      have hcz46_2 : wr.cell? ⟨gb112, 2, none⟩ = some (.slice A0_2 l0_2.length c0_2) := (blk_cell BK112.out 2).trans rfl
                      have hfz46_0 := blk_frozen BK112.out 0
                      have hfz46_1 := blk_frozen BK112.out 1
                      have hfz46_2 := blk_frozen BK112.out 2
                      have p113 : 0 ≤ (x10_4 : Int) := of_decide_eq_true (by first | (with_reducible assumption) | assumption)
                      have q113 : x10_4 < (l0_2.length : Int) := of_decide_eq_true (by first | (with_reducible assumption) | assumption)
                      obtain ⟨ad113, A113_2, c113_2, e113, hx113_0, hx113_1, hx113_2, hl113_2, hi113_2⟩ := at_T24 HR0_2.out x10_4 p113 q113
                      cases e113
                      replace hx113_0 := (HB.out.cell (World.block_lt_of_cell? w _ hx113_0)).trans hx113_0
                      replace hx113_1 := (HB.out.cell (World.block_lt_of_cell? w _ hx113_1)).trans hx113_1
                      replace hx113_2 := (HB.out.cell (World.block_lt_of_cell? w _ hx113_2)).trans hx113_2
                      have HR113_2 := Aside0.mk hi113_2
                      have HC113_2 := Aside0.mk hl113_2
                      clear hi113_2 hl113_2
                      replace p113 := eq_true p113
                      replace q113 := eq_true q113
                      try go_wp2_with (first | ((with_reducible refine gate_dst (N := 11) rfl ?_); refine box_event ?hg (N := 11) ?hd (cs := #[.string (⟨#[]⟩ : ByteArray), .string (⟨#[]⟩ : ByteArray), .slice none 0 0]) (t := 24) ?hr ?_; (case hd => rfl); (case hg => rfl); (case hr => first | (go_simp; done) | (go_simp; rfl)); intro gb114 hg w47 hbox hb; have n0_ := Aside0.mk (blk_below (g := gb112) (o := .cells #[.string a0_0, .string a0_1, .slice (some ad113) l0_2.length c0_2] 24 (0, 0)) (by (with_reducible repeat (first | refine blk_drewN ?_ _ | refine blk_drew ?_ | refine blk_alloc ?_ _)); exact BK112.out) hb); have n1_ := Aside0.mk (below_step (by repeat (first | (with_reducible first | exact HB.out | apply below_alloc | apply pw_below_drewN | apply below_drew1 | refine below_set ?_ GE112.out) | exact HB.out)) hb); have n2_ := Aside0.mk (hbox); have n3_ := Aside0.mk ((by rw [hg]; exact (below_size (by repeat (first | (with_reducible first | exact HB.out | apply below_alloc | apply pw_below_drewN | apply below_drew1 | refine below_set ?_ GE112.out) | exact HB.out))) : w.heap.size ≤ gb114)); have n4_ := Aside0.mk ((by rw [hg]; exact (below_size (by repeat (first | (with_reducible first | exact HB.out | apply below_alloc | apply pw_below_drewN | apply below_drew1 | refine below_set ?_ GE112.out) | exact HB.out))) : w.heap.size ≤ gb114)); have n5_ := Aside0.mk ((by rw [hg]; exact Nat.ne_of_lt (blk_lt (g := gb112) (o := .cells #[.string a0_0, .string a0_1, .slice (some ad113) l0_2.length c0_2] 24 (0, 0)) (by (with_reducible repeat (first | refine blk_drewN ?_ _ | refine blk_drew ?_ | refine blk_alloc ?_ _)); exact BK112.out)) : gb112 ≠ gb114)); have n6_ := Aside0.mk ((by rw [hg]; exact Nat.ne_of_gt (blk_lt (g := gb112) (o := .cells #[.string a0_0, .string a0_1, .slice (some ad113) l0_2.length c0_2] 24 (0, 0)) (by (with_reducible repeat (first | refine blk_drewN ?_ _ | refine blk_drew ?_ | refine blk_alloc ?_ _)); exact BK112.out)) : gb114 ≠ gb112)); clear BK112; clear HB; have BK112 := n0_; have HB := n1_; have BK114 := n2_; have GW114 := n3_; have GE114 := n4_; have NB112_114 := n5_; have NB114_112 := n6_; clear n0_ n1_ n2_ n3_ n4_ n5_ n6_; clear hb hbox hg; have hnb48 := NB114_112.out; have hnc48 := NB112_114.out; have hcz49_0 : w47.cell? ⟨gb114, 0, none⟩ = some (.string (⟨#[]⟩ : ByteArray)) := (blk_cell BK114.out 0).trans rfl; have hcz49_1 : w47.cell? ⟨gb114, 1, none⟩ = some (.string (⟨#[]⟩ : ByteArray)) := (blk_cell BK114.out 1).trans rfl; have hcz49_2 : w47.cell? ⟨gb114, 2, none⟩ = some (.slice none 0 0) := (blk_cell BK114.out 2).trans rfl; have hfz49_0 := blk_frozen BK114.out 0; have hfz49_1 := blk_frozen BK114.out 1; have hfz49_2 := blk_frozen BK114.out 2; have p20 : 0 ≤ (0 : Int) := (by omega); have q20 : 0 < ((rd_T24 l0_2 x10_4).f0).size := (by have : (0 : Int) < (((rd_T24 l0_2 x10_4).f0).size : Int) := of_decide_eq_true (by first | (with_reducible assumption) | assumption); omega); have hx20 : ∀ h : 0 < ((rd_T24 l0_2 x10_4).f0).size, ((((rd_T24 l0_2 x10_4).f0)[0]'h).toNat : Int) = bt ((rd_T24 l0_2 x10_4).f0) 0 := bt_at ((rd_T24 l0_2 x10_4).f0) 0; clear p20; have qi20 : (0 < (((rd_T24 l0_2 x10_4).f0).size : Int)) = True := eq_true (of_decide_eq_true (by first | (with_reducible assumption) | assumption)); replace q20 := eq_true q20))
                      have n0_ : Aside0 ((((w47.setCell ⟨gb114, 0, none⟩ (.string ((rd_T24 l0_2 x10_4).f0))).setCell ⟨gb114, 1, none⟩ (.string ((rd_T24 l0_2 x10_4).f1))).setCell ⟨gb114, 2, none⟩ (.slice A113_2 ((rd_T24 l0_2 x10_4).f2).length c113_2)).heap[gb112]? = some (.cells #[.string a0_0, .string a0_1, .slice (some ad113) l0_2.length c0_2] 24 (0, 0))) := ⟨by (with_reducible repeat (first | refine blk_drewN ?_ _ | refine blk_drew ?_ | refine blk_alloc ?_ _)); refine blk_far ?_ NB112_114.out _; (with_reducible repeat (first | refine blk_drewN ?_ _ | refine blk_drew ?_ | refine blk_alloc ?_ _)); refine blk_far ?_ NB112_114.out _; (with_reducible repeat (first | refine blk_drewN ?_ _ | refine blk_drew ?_ | refine blk_alloc ?_ _)); refine blk_far ?_ NB112_114.out _; (with_reducible repeat (first | refine blk_drewN ?_ _ | refine blk_drew ?_ | refine blk_alloc ?_ _)); exact BK112.out⟩
                      have n1_ : Aside0 ((((w47.setCell ⟨gb114, 0, none⟩ (.string ((rd_T24 l0_2 x10_4).f0))).setCell ⟨gb114, 1, none⟩ (.string ((rd_T24 l0_2 x10_4).f1))).setCell ⟨gb114, 2, none⟩ (.slice A113_2 ((rd_T24 l0_2 x10_4).f2).length c113_2)).heap[gb114]? = some (.cells #[.string ((rd_T24 l0_2 x10_4).f0), .string ((rd_T24 l0_2 x10_4).f1), .slice A113_2 ((rd_T24 l0_2 x10_4).f2).length c113_2] 24 (0, 0))) := ⟨by (with_reducible repeat (first | refine blk_drewN ?_ _ | refine blk_drew ?_ | refine blk_alloc ?_ _)); refine blk_put (cs := #[.string ((rd_T24 l0_2 x10_4).f0), .string ((rd_T24 l0_2 x10_4).f1), .slice none 0 0]) ?_ 2 _ rfl; (with_reducible repeat (first | refine blk_drewN ?_ _ | refine blk_drew ?_ | refine blk_alloc ?_ _)); refine blk_put (cs := #[.string ((rd_T24 l0_2 x10_4).f0), .string (⟨#[]⟩ : ByteArray), .slice none 0 0]) ?_ 1 _ rfl; (with_reducible repeat (first | refine blk_drewN ?_ _ | refine blk_drew ?_ | refine blk_alloc ?_ _)); refine blk_put (cs := #[.string (⟨#[]⟩ : ByteArray), .string (⟨#[]⟩ : ByteArray), .slice none 0 0]) ?_ 0 _ rfl; (with_reducible repeat (first | refine blk_drewN ?_ _ | refine blk_drew ?_ | refine blk_alloc ?_ _)); exact BK114.out⟩
                      have n2_ : Aside0 (Below w.heap.size w (((w47.setCell ⟨gb114, 0, none⟩ (.string ((rd_T24 l0_2 x10_4).f0))).setCell ⟨gb114, 1, none⟩ (.string ((rd_T24 l0_2 x10_4).f1))).setCell ⟨gb114, 2, none⟩ (.slice A113_2 ((rd_T24 l0_2 x10_4).f2).length c113_2))) := ⟨by repeat (first | (with_reducible first | exact HB.out | apply below_alloc | apply pw_below_drewN | apply below_drew1 | refine below_set ?_ GE112.out | refine below_set ?_ GE114.out) | exact HB.out)⟩
                      (try clear BK112)
                      (try clear BK114)
                      (try clear HB)
                      generalize (((w47.setCell ⟨gb114, 0, none⟩ (.string ((rd_T24 l0_2 x10_4).f0))).setCell ⟨gb114, 1, none⟩ (.string ((rd_T24 l0_2 x10_4).f1))).setCell ⟨gb114, 2, none⟩ (.slice A113_2 ((rd_T24 l0_2 x10_4).f2).length c113_2)) = w50 at n0_ n1_ n2_ ⊢
                      have BK112 := n0_
                      have BK114 := n1_
                      have HB := n2_
                      clear n0_ n1_ n2_
                      have n0_ := Aside0.mk (blk_drew BK112.out)
                      have n1_ := Aside0.mk (blk_drew BK114.out)
                      have n2_ := Aside0.mk (below_drew1 HB.out)
                      clear BK112
                      clear BK114
                      clear HB
                      have BK112 := n0_
                      have BK114 := n1_
                      have HB := n2_
                      clear n0_ n1_ n2_
                      refine start_ (n := 16) (S := fun w' => w'.cell? ⟨gb114, 0, none⟩ = some (.string ((rd_T24 l0_2 x10_4).f0)) ∧ w'.cell? ⟨gb114, 1, none⟩ = some (.string ((rd_T24 l0_2 x10_4).f1)) ∧ w'.cell? ⟨gb114, 2, none⟩ = some (.slice A113_2 ((rd_T24 l0_2 x10_4).f2).length c113_2)) (ds := []) (ms5 0 16) (by kernel_rfl) rfl rfl ⟨(blk_cell BK114.out 0).trans rfl, (blk_cell BK114.out 1).trans rfl, (blk_cell BK114.out 2).trans rfl⟩ (fun hHeld => ?_); refine with_tabW remitterlaw10_draw.tab19 remitterlaw10_draw.bits19 (fun HT_ HW_ => ?_)
                      generalize w50.drew = w51 at BK112 BK114 HB hHeld ⊢
                      refine pure_ (i := 0) (N := some 55) (v := ?_) (a' := ?_) (ms5 1 15) rfl rfl (any_of HT_.out (by kernel_rfl)) (fun _ _ _ h => h) (Or.inl ⟨by rfl, ?_⟩) ?_ ?_
                      rotate_left
                      ·
                       intro w'
                       go_simp
                       with_reducible rfl
                      rotate_left
                      ·
                       go_simp
                       rfl
                      refine pure_ (i := 1) (N := some 56) (v := ?_) (a' := ?_) (ms5 2 14) rfl rfl (any_of HT_.out (by kernel_rfl)) (fun _ _ _ h => h) (Or.inl ⟨by rfl, ?_⟩) ?_ ?_
                      rotate_left
                      ·
                       intro w'
                       go_simp
                       with_reducible rfl
                      rotate_left
                      ·
                       go_simp
                       rfl
                      refine pure_ (i := 2) (N := some 57) (v := ?_) (a' := ?_) (ms5 3 13) rfl rfl (any_of HT_.out (by kernel_rfl)) (fun _ _ _ h => h) (Or.inl ⟨by rfl, ?_⟩) ?_ ?_
                      rotate_left
                      ·
                       intro w'
                       go_simp
                       with_reducible rfl
                      rotate_left
                      ·
                       go_simp
                       rfl
                      refine pure_ (i := 7) (N := some 62) (v := ?_) (a' := ?_) #[true, true, true, false, false, false, false, true, false, false, false, false, false, false, false, false] rfl rfl (any_of HT_.out (by kernel_rfl)) (fun _ _ _ h => h) (Or.inl ⟨by rfl, ?_⟩) ?_ ?_
                      rotate_left
                      ·
                       intro w'
                       go_simp
                       with_reducible rfl
                      rotate_left
                      ·
                       go_simp
                       rfl
                      refine pure_ (i := 9) (N := some 64) (v := ?_) (a' := ?_) #[true, true, true, false, false, false, false, true, false, true, false, false, false, false, false, false] rfl rfl (any_of HT_.out (by kernel_rfl)) (fun _ _ _ h => h) (Or.inl ⟨by rfl, ?_⟩) ?_ ?_
                      rotate_left
                      ·
                       intro w'
                       go_simp
                       with_reducible rfl
                      rotate_left
                      ·
                       go_simp
                       rfl
                      refine pure_ (i := 13) (N := some 68) (v := ?_) (a' := ?_) #[true, true, true, false, false, false, false, true, false, true, false, false, false, true, false, false] rfl rfl (any_of HT_.out (by kernel_rfl)) (fun _ _ _ h => h) (Or.inl ⟨by rfl, ?_⟩) ?_ ?_
                      rotate_left
                      ·
                       intro w'
                       go_simp
                       with_reducible rfl
                      rotate_left
                      ·
                       go_simp
                       rfl
                      refine take_ (i := 3) (N := some 58) (v := ?_) (a' := ?_) #[true, true, true, true, false, false, false, true, false, true, false, false, false, true, false, false] rfl rfl (take_ofW HT_.out HW_.out (by kernel_rfl)) (fun _ _ _ h => h) (Or.inl ⟨by rfl, ?_⟩) hHeld ?_ ?_
                      rotate_left
                      ·
                       rintro w' ⟨s0, s1, s2⟩
                       go_simp
                       with_reducible rfl
                      rotate_left
                      ·
                       go_simp
                       rfl
                      refine pure_ (i := 4) (N := some 59) (v := ?_) (a' := ?_) #[true, true, true, true, true, false, false, true, false, true, false, false, false, true, false, false] rfl rfl (any_of HT_.out (by kernel_rfl)) (fun _ _ _ h => h) (Or.inl ⟨by rfl, ?_⟩) ?_ ?_
                      rotate_left
                      ·
                       intro w'
                       go_simp
                       with_reducible rfl
                      rotate_left
                      ·
                       go_simp
                       rfl
                      refine pure_ (i := 5) (N := some 60) (v := ?_) (a' := ?_) #[true, true, true, true, true, true, false, true, false, true, false, false, false, true, false, false] rfl rfl (any_of HT_.out (by kernel_rfl)) (fun _ _ _ h => h) (Or.inl ⟨by rfl, ?_⟩) ?_ ?_
                      rotate_left
                      ·
                       intro w'
                       go_simp
                       with_reducible rfl
                      rotate_left
                      ·
                       go_simp
                       rfl
                      refine pure_ (i := 6) (N := some 61) (v := ?_) (a' := ?_) #[true, true, true, true, true, true, true, true, false, true, false, false, false, true, false, false] rfl rfl (any_of HT_.out (by kernel_rfl)) (fun _ _ _ h => h) (Or.inl ⟨by rfl, ?_⟩) ?_ ?_
                      rotate_left
                      ·
                       intro w'
                       go_simp
                       with_reducible rfl
                      rotate_left
                      ·
                       go_simp
                       rfl
                      refine pure_ (i := 8) (N := some 63) (v := ?_) (a' := ?_) #[true, true, true, true, true, true, true, true, true, true, false, false, false, true, false, false] rfl rfl (any_of HT_.out (by kernel_rfl)) (fun _ _ _ h => h) (Or.inl ⟨by rfl, ?_⟩) ?_ ?_
                      rotate_left
                      ·
                       intro w'
                       go_simp
                       with_reducible rfl
                      rotate_left
                      ·
                       go_simp
                       rfl
                      refine take_ (i := 10) (N := some 65) (v := ?_) (a' := ?_) #[true, true, true, true, true, true, true, true, true, true, true, false, false, true, false, false] rfl rfl (take_ofW HT_.out HW_.out (by kernel_rfl)) (fun _ _ _ h => h) (Or.inl ⟨by rfl, ?_⟩) hHeld ?_ ?_
                      rotate_left
                      ·
                       rintro w' ⟨s0, s1, s2⟩
                       go_simp
                       with_reducible rfl
                      rotate_left
                      ·
                       go_simp
                       rfl
                      refine one_ (i := 11) (N := some 66) #[true, true, true, true, true, true, true, true, true, true, true, true, false, true, false, false] rfl rfl (one_of HT_.out (by kernel_rfl)) (by decide) (fun K hK => ?_)
                      refine goes_ Tryz.func31 (by kernel_rfl) rfl #[.string ((rd_T24 l0_2 x10_4).f1)] (by rfl) rfl rfl (by (try simp only [List.map_toArray, List.map_cons, List.map_nil]); first | done | rfl | (simp only [List.length_drop, List.length_take]; rfl)) ?_
                      with_reducible refine (text_Escape.calls ((rd_T24 l0_2 x10_4).f1) t116 _ A43.out (by first | exact hG | exact hG.below (by repeat (first | (with_reducible first | exact HB.out | apply below_alloc | apply pw_below_drewN | apply below_drew1) | exact HB.out)))).mono ?_
                      rintro e w52 ⟨rfl, hb⟩
                      refine ⟨_, rfl, ?_⟩
                      have n0_ := Aside0.mk (blk_below (g := gb112) (o := .cells #[.string a0_0, .string a0_1, .slice (some ad113) l0_2.length c0_2] 24 (0, 0)) (by (with_reducible repeat (first | refine blk_drewN ?_ _ | refine blk_drew ?_ | refine blk_alloc ?_ _)); exact BK112.out) hb)
                      have n1_ := Aside0.mk (blk_below (g := gb114) (o := .cells #[.string ((rd_T24 l0_2 x10_4).f0), .string ((rd_T24 l0_2 x10_4).f1), .slice A113_2 ((rd_T24 l0_2 x10_4).f2).length c113_2] 24 (0, 0)) (by (with_reducible repeat (first | refine blk_drewN ?_ _ | refine blk_drew ?_ | refine blk_alloc ?_ _)); exact BK114.out) hb)
                      have n2_ := Aside0.mk (below_step (by repeat (first | (with_reducible first | exact HB.out | apply below_alloc | apply pw_below_drewN | apply below_drew1 | refine below_set ?_ GE112.out | refine below_set ?_ GE114.out) | exact HB.out)) hb)
                      clear BK112
                      clear BK114
                      clear HB
                      have BK112 := n0_
                      have BK114 := n1_
                      have HB := n2_
                      clear n0_ n1_ n2_
                      (try clear hb)
                      (try clear hb2)
                      (try clear hk)
                      (try clear hi)
                      refine hK.out _ _ ⟨(blk_cell BK114.out 0).trans rfl, (blk_cell BK114.out 1).trans rfl, (blk_cell BK114.out 2).trans rfl⟩ (fun hHeld => ?_)
                      clear hK K
                      refine norm_ (a' := ?_) ?_ ?_
                      rotate_left
                      ·
                       show Act.put _ (some 66) _ = _
                       go_simp
                       rfl
                      refine pure_ (i := 12) (N := some 67) (v := ?_) (a' := ?_) (ms5 14 2) rfl rfl (any_of HT_.out (by kernel_rfl)) (fun _ _ _ h => h) (Or.inl ⟨by rfl, ?_⟩) ?_ ?_
                      rotate_left
                      ·
                       intro w'
                       go_simp
                       with_reducible rfl
                      rotate_left
                      ·
                       go_simp
                       rfl
                      refine pure_ (i := 14) (N := some 69) (v := ?_) (a' := ?_) (ms5 15 1) rfl rfl (any_of HT_.out (by kernel_rfl)) (fun _ _ _ h => h) (Or.inl ⟨by rfl, ?_⟩) ?_ ?_
                      rotate_left
                      ·
                       intro w'
                       go_simp
                       with_reducible rfl
                      rotate_left
                      ·
                       go_simp
                       rfl
                      refine pure_ (i := 15) (N := some 8) (v := ?_) (a' := ?_) (ms5 16 0) rfl rfl (any_of HT_.out (by kernel_rfl)) (fun _ _ _ h => h) (Or.inl ⟨by rfl, ?_⟩) ?_ ?_
                      rotate_left
                      ·
                       intro w'
                       go_simp
                       with_reducible rfl
                      rotate_left
                      ·
                       go_simp
                       rfl
                      refine done_ (done_of HT_.out (by kernel_rfl)) ?_
                      try go_wp2
                      go_roundg k4
                      case measure => have := HJ3.out; have := HJ9.out; have := HJ11.out; have := HK4.out; omega
                      case rel => exact ⟨((((((x8_4 ++ (⟨#[32]⟩ : ByteArray)) ++ (((rd_T24 l0_2 x10_4).f0).extract 1 ((rd_T24 l0_2 x10_4).f0).size)) ++ (⟨#[61]⟩ : ByteArray)) ++ (⟨#[34]⟩ : ByteArray)) ++ t116) ++ (⟨#[34]⟩ : ByteArray)), (x9_4), (wrap64 (x10_4 + 1)), rf3, rf3, rf3, H', ⟨by have := HJ3.out; have := HJ9.out; have := HJ11.out; have := HK4.out; omega⟩, ⟨by (with_reducible repeat (first | refine blk_drewN ?_ _ | refine blk_drew ?_ | refine blk_alloc ?_ _)); exact BK112.out⟩, ⟨by repeat (first | (with_reducible first | exact HB.out | apply below_alloc | apply pw_below_drewN | apply below_drew1 | refine below_set ?_ GE112.out | refine below_set ?_ GE114.out) | exact HB.out)⟩⟩
                     ·
                      rw [if_neg c45] at H
                      exact absurd H (by simp)
                    ·
                     rw [if_neg c44] at H
                     exact absurd H (by simp)
                   ·
                    rw [if_neg c42] at H
                    exact absurd H (by simp)
                  ·
                   rw [if_neg c41] at H
                   exact absurd H (by simp)
                 ·
                  rw [if_neg c40] at H
                  exact absurd H (by simp)
                ·
                 rw [if_neg c39] at H
                 exact absurd H (by simp)
               ·
                rw [if_neg c38] at H
                exact absurd H (by simp)
             ·
              rw [if_neg c21] at H
              have c21b0 : ((bt ((rd_T24 l0_2 x10_4).f0) 0) == 64) = false := beq_eq_false_iff_ne.mpr c21
              have c21b1 : ((bt ((rd_T24 l0_2 x10_4).f0) 0) != 64) = true := bne_iff_ne.mpr c21
              have H' := Aside0.mk H
              clear H
              have hcz53_0 : wr.cell? ⟨gb112, 0, none⟩ = some (.string a0_0) := (blk_cell BK112.out 0).trans rfl
              have hcz53_1 : wr.cell? ⟨gb112, 1, none⟩ = some (.string a0_1) := (blk_cell BK112.out 1).trans rfl
              have hcz53_2 : wr.cell? ⟨gb112, 2, none⟩ = some (.slice A0_2 l0_2.length c0_2) := (blk_cell BK112.out 2).trans rfl
              have hfz53_0 := blk_frozen BK112.out 0
              have hfz53_1 := blk_frozen BK112.out 1
              have hfz53_2 := blk_frozen BK112.out 2
              have p113 : 0 ≤ (x10_4 : Int) := of_decide_eq_true (by first | (with_reducible assumption) | assumption)
              have q113 : x10_4 < (l0_2.length : Int) := of_decide_eq_true (by first | (with_reducible assumption) | assumption)
              obtain ⟨ad113, A113_2, c113_2, e113, hx113_0, hx113_1, hx113_2, hl113_2, hi113_2⟩ := at_T24 HR0_2.out x10_4 p113 q113
              cases e113
              replace hx113_0 := (HB.out.cell (World.block_lt_of_cell? w _ hx113_0)).trans hx113_0
              replace hx113_1 := (HB.out.cell (World.block_lt_of_cell? w _ hx113_1)).trans hx113_1
              replace hx113_2 := (HB.out.cell (World.block_lt_of_cell? w _ hx113_2)).trans hx113_2
              have HR113_2 := Aside0.mk hi113_2
              have HC113_2 := Aside0.mk hl113_2
              clear hi113_2 hl113_2
              replace p113 := eq_true p113
              replace q113 := eq_true q113
              go_wp2_with (first | ((with_reducible refine gate_dst (N := 11) rfl ?_); refine box_event ?hg (N := 11) ?hd (cs := #[.string (⟨#[]⟩ : ByteArray), .string (⟨#[]⟩ : ByteArray), .slice none 0 0]) (t := 24) ?hr ?_; (case hd => rfl); (case hg => rfl); (case hr => first | (go_simp; done) | (go_simp; rfl)); intro gb114 hg w54 hbox hb; have n0_ := Aside0.mk (blk_below (g := gb112) (o := .cells #[.string a0_0, .string a0_1, .slice (some ad113) l0_2.length c0_2] 24 (0, 0)) (by (with_reducible repeat (first | refine blk_drewN ?_ _ | refine blk_drew ?_ | refine blk_alloc ?_ _)); exact BK112.out) hb); have n1_ := Aside0.mk (below_step (by repeat (first | (with_reducible first | exact HB.out | apply below_alloc | apply pw_below_drewN | apply below_drew1 | refine below_set ?_ GE112.out) | exact HB.out)) hb); have n2_ := Aside0.mk (hbox); have n3_ := Aside0.mk ((by rw [hg]; exact (below_size (by repeat (first | (with_reducible first | exact HB.out | apply below_alloc | apply pw_below_drewN | apply below_drew1 | refine below_set ?_ GE112.out) | exact HB.out))) : w.heap.size ≤ gb114)); have n4_ := Aside0.mk ((by rw [hg]; exact (below_size (by repeat (first | (with_reducible first | exact HB.out | apply below_alloc | apply pw_below_drewN | apply below_drew1 | refine below_set ?_ GE112.out) | exact HB.out))) : w.heap.size ≤ gb114)); have n5_ := Aside0.mk ((by rw [hg]; exact Nat.ne_of_lt (blk_lt (g := gb112) (o := .cells #[.string a0_0, .string a0_1, .slice (some ad113) l0_2.length c0_2] 24 (0, 0)) (by (with_reducible repeat (first | refine blk_drewN ?_ _ | refine blk_drew ?_ | refine blk_alloc ?_ _)); exact BK112.out)) : gb112 ≠ gb114)); have n6_ := Aside0.mk ((by rw [hg]; exact Nat.ne_of_gt (blk_lt (g := gb112) (o := .cells #[.string a0_0, .string a0_1, .slice (some ad113) l0_2.length c0_2] 24 (0, 0)) (by (with_reducible repeat (first | refine blk_drewN ?_ _ | refine blk_drew ?_ | refine blk_alloc ?_ _)); exact BK112.out)) : gb114 ≠ gb112)); clear BK112; clear HB; have BK112 := n0_; have HB := n1_; have BK114 := n2_; have GW114 := n3_; have GE114 := n4_; have NB112_114 := n5_; have NB114_112 := n6_; clear n0_ n1_ n2_ n3_ n4_ n5_ n6_; clear hb hbox hg; have hnb55 := NB114_112.out; have hnc55 := NB112_114.out; have hcz56_0 : w54.cell? ⟨gb114, 0, none⟩ = some (.string (⟨#[]⟩ : ByteArray)) := (blk_cell BK114.out 0).trans rfl; have hcz56_1 : w54.cell? ⟨gb114, 1, none⟩ = some (.string (⟨#[]⟩ : ByteArray)) := (blk_cell BK114.out 1).trans rfl; have hcz56_2 : w54.cell? ⟨gb114, 2, none⟩ = some (.slice none 0 0) := (blk_cell BK114.out 2).trans rfl; have hfz56_0 := blk_frozen BK114.out 0; have hfz56_1 := blk_frozen BK114.out 1; have hfz56_2 := blk_frozen BK114.out 2; have p20 : 0 ≤ (0 : Int) := (by omega); have q20 : 0 < ((rd_T24 l0_2 x10_4).f0).size := (by have : (0 : Int) < (((rd_T24 l0_2 x10_4).f0).size : Int) := of_decide_eq_true (by first | (with_reducible assumption) | assumption); omega); have hx20 : ∀ h : 0 < ((rd_T24 l0_2 x10_4).f0).size, ((((rd_T24 l0_2 x10_4).f0)[0]'h).toNat : Int) = bt ((rd_T24 l0_2 x10_4).f0) 0 := bt_at ((rd_T24 l0_2 x10_4).f0) 0; clear p20; have qi20 : (0 < (((rd_T24 l0_2 x10_4).f0).size : Int)) = True := eq_true (of_decide_eq_true (by first | (with_reducible assumption) | assumption)); replace q20 := eq_true q20))
              go_roundg k4
              case measure => have := HJ3.out; have := HJ9.out; have := HJ11.out; have := HK4.out; omega
              case rel => exact ⟨(x8_4), (wrap64 (x9_4 + 1)), (wrap64 (x10_4 + 1)), rf3, rf3, rf3, H', ⟨by have := HJ3.out; have := HJ9.out; have := HJ11.out; have := HK4.out; omega⟩, ⟨by (with_reducible repeat (first | refine blk_drewN ?_ _ | refine blk_drew ?_ | refine blk_alloc ?_ _)); refine blk_far ?_ NB112_114.out _; (with_reducible repeat (first | refine blk_drewN ?_ _ | refine blk_drew ?_ | refine blk_alloc ?_ _)); refine blk_far ?_ NB112_114.out _; (with_reducible repeat (first | refine blk_drewN ?_ _ | refine blk_drew ?_ | refine blk_alloc ?_ _)); refine blk_far ?_ NB112_114.out _; (with_reducible repeat (first | refine blk_drewN ?_ _ | refine blk_drew ?_ | refine blk_alloc ?_ _)); exact BK112.out⟩, ⟨by repeat (first | (with_reducible first | exact HB.out | apply below_alloc | apply pw_below_drewN | apply below_drew1 | refine below_set ?_ GE112.out | refine below_set ?_ GE114.out) | exact HB.out)⟩⟩
            ·
             rw [if_neg c19] at H
             exact absurd H (by simp)
           ·
            rw [if_neg c18] at H
            exact absurd H (by simp)
          ·
           rw [if_neg c17] at H
           have c17b0 : decide (x10_4 < (l0_2.length : Int)) = false := decide_eq_false c17
           clear c17
           have HC57 := Aside0.mk H
           clear H
           have hcz58_0 : wr.cell? ⟨gb112, 0, none⟩ = some (.string a0_0) := (blk_cell BK112.out 0).trans rfl
           have hcz58_1 : wr.cell? ⟨gb112, 1, none⟩ = some (.string a0_1) := (blk_cell BK112.out 1).trans rfl
           have hcz58_2 : wr.cell? ⟨gb112, 2, none⟩ = some (.slice A0_2 l0_2.length c0_2) := (blk_cell BK112.out 2).trans rfl
           have hfz58_0 := blk_frozen BK112.out 0
           have hfz58_1 := blk_frozen BK112.out 1
           have hfz58_2 := blk_frozen BK112.out 2
           go_upto_if 72 with (fail)
           go_cut [8] (fun v8 wc => ∃ (kq : Nat) (x8_56 : ByteArray), v8 = .string x8_56 ∧ Aside0 (remitterlaw10_draw.j4 kq a1 x7_3 x8_56 x9_4 a0_0 a0_1 l0_2 = some r) ∧ Aside0 (kq ≤ k4) ∧ Aside0 (wc.heap[gb112]? = some (.cells #[.string a0_0, .string a0_1, (.slice A0_2 l0_2.length c0_2)] 24 (0, 0))) ∧ Aside0 (Below w.heap.size w wc))
           case first =>
            have H := HC57.out
            clear HC57
            by_cases c59 : (Go.bits .and .u8 a1 4) = 4
            ·
             rw [if_pos c59] at H
             have c59b0 : ((Go.bits .and .u8 a1 4) == 4) = true := beq_iff_eq.mpr c59
             have c59b1 : ((Go.bits .and .u8 a1 4) != 4) = false := bne_eq_false_iff_eq.mpr c59
             clear c59
             (first | rw [c59b0] | (simp only [i64_w, i32_w]; rw [c59b0]) | skip)
             by_cases c60 : x8_4.size + 1 ≤ 9223372036854775807
             ·
              rw [if_pos c60] at H
              have c60b0 := eq_true c60
              have c60b1 : decide (x8_4.size + 1 ≤ 9223372036854775807) = true := decide_eq_true c60
              try have c60b2 : (9223372036854775807 < x8_4.size + 1) = False := eq_false (Nat.not_lt.2 c60)
              try (have c60b3 := c60b2; simp only [ByteArray.size_append, ByteArray.size_extract, Nat.min_self] at c60b3)
              have H' := Aside0.mk H
              clear H
              go_wp2
              go_meet
              case rel => exact ⟨_, (x8_4 ++ (⟨#[10]⟩ : ByteArray)), rf3, H', ⟨by have := HJ3.out; have := HJ9.out; have := HJ11.out; have := HK4.out; first | omega | exact Nat.le_refl _⟩, ⟨by (with_reducible repeat (first | refine blk_drewN ?_ _ | refine blk_drew ?_ | refine blk_alloc ?_ _)); exact BK112.out⟩, ⟨by repeat (first | (with_reducible first | exact HB.out | apply below_alloc | apply pw_below_drewN | apply below_drew1 | refine below_set ?_ GE112.out) | exact HB.out)⟩⟩
             ·
              rw [if_neg c60] at H
              exact absurd H (by simp)
            ·
             rw [if_neg c59] at H
             have c59b0 : ((Go.bits .and .u8 a1 4) == 4) = false := beq_eq_false_iff_ne.mpr c59
             have c59b1 : ((Go.bits .and .u8 a1 4) != 4) = true := bne_iff_ne.mpr c59
             (first | rw [c59b0] | (simp only [i64_w, i32_w]; rw [c59b0]) | skip)
             have H' := Aside0.mk H
             clear H
             go_wp2
             go_meet
             case rel => exact ⟨_, (x8_4), rf3, H', ⟨by have := HJ3.out; have := HJ9.out; have := HJ11.out; have := HK4.out; first | omega | exact Nat.le_refl _⟩, ⟨by (with_reducible repeat (first | refine blk_drewN ?_ _ | refine blk_drew ?_ | refine blk_alloc ?_ _)); exact BK112.out⟩, ⟨by repeat (first | (with_reducible first | exact HB.out | apply below_alloc | apply pw_below_drewN | apply below_drew1 | refine below_set ?_ GE112.out) | exact HB.out)⟩⟩
           case rest =>
            clear HC57
            try clear c11
            try clear c17
            try clear c17b0
            try clear c18
            try clear c18b0
            try clear c19
            try clear c19b0
            try clear c19b1
            try clear p20
            try clear q20
            try clear hx20
            try clear qi20
            try clear c21
            try clear c21b0
            try clear c21b1
            try clear c22
            try clear c22b0
            try clear c22b1
            try clear c23
            try clear c23b0
            try clear c23b1
            try clear c23b2
            try clear c24
            try clear c24b0
            try clear c24b1
            try clear c25
            try clear c25b0
            try clear c25b1
            try clear c25b2
            try clear c26
            try clear c26b0
            try clear c26b1
            try clear c26b2
            try clear c27
            try clear c27b0
            try clear c27b1
            try clear c27b2
            try clear c29
            try clear c29b0
            try clear c29b1
            try clear c29b2
            try clear c30
            try clear c30b0
            try clear c30b1
            try clear c30b2
            try clear c38
            try clear c38b0
            try clear c38b1
            try clear c38b2
            try clear c39
            try clear c39b0
            try clear c39b1
            try clear c40
            try clear c40b0
            try clear c40b1
            try clear c40b2
            try clear c41
            try clear c41b0
            try clear c41b1
            try clear c41b2
            try clear c42
            try clear c42b0
            try clear c42b1
            try clear c42b2
            try clear c44
            try clear c44b0
            try clear c44b1
            try clear c44b2
            try clear c45
            try clear c45b0
            try clear c45b1
            try clear c45b2
            try clear c59
            try clear c59b0
            try clear c59b1
            try clear c60
            try clear c60b0
            try clear c60b1
            try clear c60b2
            try clear hcz31_0
            try clear hcz31_1
            try clear hcz31_2
            try clear hcz34_0
            try clear hcz34_1
            try clear hcz34_2
            try clear hcz46_0
            try clear hcz46_1
            try clear hcz46_2
            try clear hcz49_0
            try clear hcz49_1
            try clear hcz49_2
            try clear hcz53_0
            try clear hcz53_1
            try clear hcz53_2
            try clear hcz56_0
            try clear hcz56_1
            try clear hcz56_2
            try clear hcz58_0
            try clear hcz58_1
            try clear hcz58_2
            try clear hfz31_0
            try clear hfz31_1
            try clear hfz31_2
            try clear hfz34_0
            try clear hfz34_1
            try clear hfz34_2
            try clear hfz46_0
            try clear hfz46_1
            try clear hfz46_2
            try clear hfz49_0
            try clear hfz49_1
            try clear hfz49_2
            try clear hfz53_0
            try clear hfz53_1
            try clear hfz53_2
            try clear hfz56_0
            try clear hfz56_1
            try clear hfz56_2
            try clear hfz58_0
            try clear hfz58_1
            try clear hfz58_2
            try clear hx113_0
            try clear hx113_1
            try clear hx113_2
            try clear p113
            try clear p20
            try clear q113
            try clear q20
            obtain ⟨kq, x8_56, rfl, HA, HJ56, BK112, HB⟩ := hcut
            cases kq with
            | zero => exact absurd HA.out (by simp [remitterlaw10_draw.j4])
            | succ kj56 =>
             have H := HA.out
             clear HA
             simp only [remitterlaw10_draw.j4] at H
             have HC61 := Aside0.mk H
             clear H
             go_upto_region 22 with (fail)
             go_cut [86] (fun v86 wc => ∃ (kq : Nat) (x86_60 : Bool), v86 = .bool x86_60 ∧ Aside0 (remitterlaw10_draw.j5 kq a1 x7_3 x8_56 x9_4 x86_60 a0_0 a0_1 l0_2 = some r) ∧ Aside0 (kq ≤ kj56) ∧ Aside0 (wc.heap[gb112]? = some (.cells #[.string a0_0, .string a0_1, (.slice A0_2 l0_2.length c0_2)] 24 (0, 0))) ∧ Aside0 (Below w.heap.size w wc))
             case first =>
              have H := HC61.out
              clear HC61
              by_cases c62 : x9_4 = 0
              ·
               rw [if_pos c62] at H
               have c62b0 : (x9_4 == 0) = true := beq_iff_eq.mpr c62
               have c62b1 : (x9_4 != 0) = false := bne_eq_false_iff_eq.mpr c62
               clear c62
               (first | rw [c62b0] | (simp only [i64_w, i32_w]; rw [c62b0]) | skip)
               by_cases c63 : a0_1.toList = ([] : List UInt8)
               ·
                rw [if_pos c63] at H
                have c63b0 : (a0_1.toList == ([] : List UInt8)) = true := beq_iff_eq.mpr c63
                have c63b1 : (a0_1.toList != ([] : List UInt8)) = false := bne_eq_false_iff_eq.mpr c63
                clear c63
                have H' := Aside0.mk H
                clear H
                have hcz64_0 : wc.cell? ⟨gb112, 0, none⟩ = some (.string a0_0) := (blk_cell BK112.out 0).trans rfl
                have hcz64_1 : wc.cell? ⟨gb112, 1, none⟩ = some (.string a0_1) := (blk_cell BK112.out 1).trans rfl
                have hcz64_2 : wc.cell? ⟨gb112, 2, none⟩ = some (.slice A0_2 l0_2.length c0_2) := (blk_cell BK112.out 2).trans rfl
                have hfz64_0 := blk_frozen BK112.out 0
                have hfz64_1 := blk_frozen BK112.out 1
                have hfz64_2 := blk_frozen BK112.out 2
                go_wp2
                go_meet
                case rel => exact ⟨_, (((Go.bits .and .u8 a1 8) == 8)), rf3, H', ⟨by have := HJ3.out; have := HJ9.out; have := HJ11.out; have := HK4.out; have := HJ56.out; first | omega | exact Nat.le_refl _⟩, ⟨by (with_reducible repeat (first | refine blk_drewN ?_ _ | refine blk_drew ?_ | refine blk_alloc ?_ _)); exact BK112.out⟩, ⟨by repeat (first | (with_reducible first | exact HB.out | apply below_alloc | apply pw_below_drewN | apply below_drew1 | refine below_set ?_ GE112.out) | exact HB.out)⟩⟩
               ·
                rw [if_neg c63] at H
                have c63b0 : (a0_1.toList == ([] : List UInt8)) = false := beq_eq_false_iff_ne.mpr c63
                have c63b1 : (a0_1.toList != ([] : List UInt8)) = true := bne_iff_ne.mpr c63
                have H' := Aside0.mk H
                clear H
                have hcz65_0 : wc.cell? ⟨gb112, 0, none⟩ = some (.string a0_0) := (blk_cell BK112.out 0).trans rfl
                have hcz65_1 : wc.cell? ⟨gb112, 1, none⟩ = some (.string a0_1) := (blk_cell BK112.out 1).trans rfl
                have hcz65_2 : wc.cell? ⟨gb112, 2, none⟩ = some (.slice A0_2 l0_2.length c0_2) := (blk_cell BK112.out 2).trans rfl
                have hfz65_0 := blk_frozen BK112.out 0
                have hfz65_1 := blk_frozen BK112.out 1
                have hfz65_2 := blk_frozen BK112.out 2
                go_wp2
                go_meet
                case rel => exact ⟨_, (false), rf3, H', ⟨by have := HJ3.out; have := HJ9.out; have := HJ11.out; have := HK4.out; have := HJ56.out; first | omega | exact Nat.le_refl _⟩, ⟨by (with_reducible repeat (first | refine blk_drewN ?_ _ | refine blk_drew ?_ | refine blk_alloc ?_ _)); exact BK112.out⟩, ⟨by repeat (first | (with_reducible first | exact HB.out | apply below_alloc | apply pw_below_drewN | apply below_drew1 | refine below_set ?_ GE112.out) | exact HB.out)⟩⟩
              ·
               rw [if_neg c62] at H
               have c62b0 : (x9_4 == 0) = false := beq_eq_false_iff_ne.mpr c62
               have c62b1 : (x9_4 != 0) = true := bne_iff_ne.mpr c62
               (first | rw [c62b0] | (simp only [i64_w, i32_w]; rw [c62b0]) | skip)
               have H' := Aside0.mk H
               clear H
               go_wp2
               go_meet
               case rel => exact ⟨_, (false), rf3, H', ⟨by have := HJ3.out; have := HJ9.out; have := HJ11.out; have := HK4.out; have := HJ56.out; first | omega | exact Nat.le_refl _⟩, ⟨by (with_reducible repeat (first | refine blk_drewN ?_ _ | refine blk_drew ?_ | refine blk_alloc ?_ _)); exact BK112.out⟩, ⟨by repeat (first | (with_reducible first | exact HB.out | apply below_alloc | apply pw_below_drewN | apply below_drew1 | refine below_set ?_ GE112.out) | exact HB.out)⟩⟩
             case rest =>
              clear HC61
              try clear c11
              try clear c17
              try clear c17b0
              try clear c18
              try clear c18b0
              try clear c19
              try clear c19b0
              try clear c19b1
              try clear p20
              try clear q20
              try clear hx20
              try clear qi20
              try clear c21
              try clear c21b0
              try clear c21b1
              try clear c22
              try clear c22b0
              try clear c22b1
              try clear c23
              try clear c23b0
              try clear c23b1
              try clear c23b2
              try clear c24
              try clear c24b0
              try clear c24b1
              try clear c25
              try clear c25b0
              try clear c25b1
              try clear c25b2
              try clear c26
              try clear c26b0
              try clear c26b1
              try clear c26b2
              try clear c27
              try clear c27b0
              try clear c27b1
              try clear c27b2
              try clear c29
              try clear c29b0
              try clear c29b1
              try clear c29b2
              try clear c30
              try clear c30b0
              try clear c30b1
              try clear c30b2
              try clear c38
              try clear c38b0
              try clear c38b1
              try clear c38b2
              try clear c39
              try clear c39b0
              try clear c39b1
              try clear c40
              try clear c40b0
              try clear c40b1
              try clear c40b2
              try clear c41
              try clear c41b0
              try clear c41b1
              try clear c41b2
              try clear c42
              try clear c42b0
              try clear c42b1
              try clear c42b2
              try clear c44
              try clear c44b0
              try clear c44b1
              try clear c44b2
              try clear c45
              try clear c45b0
              try clear c45b1
              try clear c45b2
              try clear c59
              try clear c59b0
              try clear c59b1
              try clear c60
              try clear c60b0
              try clear c60b1
              try clear c60b2
              try clear c62
              try clear c62b0
              try clear c62b1
              try clear c63
              try clear c63b0
              try clear c63b1
              try clear hcz31_0
              try clear hcz31_1
              try clear hcz31_2
              try clear hcz34_0
              try clear hcz34_1
              try clear hcz34_2
              try clear hcz46_0
              try clear hcz46_1
              try clear hcz46_2
              try clear hcz49_0
              try clear hcz49_1
              try clear hcz49_2
              try clear hcz53_0
              try clear hcz53_1
              try clear hcz53_2
              try clear hcz56_0
              try clear hcz56_1
              try clear hcz56_2
              try clear hcz58_0
              try clear hcz58_1
              try clear hcz58_2
              try clear hcz64_0
              try clear hcz64_1
              try clear hcz64_2
              try clear hcz65_0
              try clear hcz65_1
              try clear hcz65_2
              try clear hfz31_0
              try clear hfz31_1
              try clear hfz31_2
              try clear hfz34_0
              try clear hfz34_1
              try clear hfz34_2
              try clear hfz46_0
              try clear hfz46_1
              try clear hfz46_2
              try clear hfz49_0
              try clear hfz49_1
              try clear hfz49_2
              try clear hfz53_0
              try clear hfz53_1
              try clear hfz53_2
              try clear hfz56_0
              try clear hfz56_1
              try clear hfz56_2
              try clear hfz58_0
              try clear hfz58_1
              try clear hfz58_2
              try clear hfz64_0
              try clear hfz64_1
              try clear hfz64_2
              try clear hfz65_0
              try clear hfz65_1
              try clear hfz65_2
              try clear hx113_0
              try clear hx113_1
              try clear hx113_2
              try clear p113
              try clear p20
              try clear q113
              try clear q20
              obtain ⟨kq, x86_60, rfl, HA, HJ60, BK112, HB⟩ := hcut
              cases kq with
              | zero => exact absurd HA.out (by simp [remitterlaw10_draw.j5])
              | succ kj60 =>
               have H := HA.out
               clear HA
               simp only [remitterlaw10_draw.j5] at H
               by_cases c66 : x86_60 = true
               ·
                subst c66
                have H1 : (if x8_56.size + 2 ≤ 9223372036854775807 then (some (x8_56 ++ (⟨#[47, 62]⟩ : ByteArray))) else (none)) = some r := by rw [if_pos rfl] at H; exact H
                clear H
                have H := H1
                clear H1
                by_cases c67 : x8_56.size + 2 ≤ 9223372036854775807
                ·
                 rw [if_pos c67] at H
                 have c67b0 := eq_true c67
                 have c67b1 : decide (x8_56.size + 2 ≤ 9223372036854775807) = true := decide_eq_true c67
                 try have c67b2 : (9223372036854775807 < x8_56.size + 2) = False := eq_false (Nat.not_lt.2 c67)
                 try (have c67b3 := c67b2; simp only [ByteArray.size_append, ByteArray.size_extract, Nat.min_self] at c67b3)
                 obtain rfl := Option.some.inj H
                 go_wp2
                 go_ret
                 exact ⟨by first | rfl | (simp [errW_none, errW_some] <;> rfl) | (simp [*, errW_none, errW_some] <;> rfl), by repeat (first | (with_reducible first | exact HB.out | apply below_alloc | apply pw_below_drewN | apply below_drew1 | refine below_set ?_ GE112.out) | exact HB.out)⟩
                ·
                 rw [if_neg c67] at H
                 exact absurd H (by simp)
               ·
                replace c66 := Bool.eq_false_iff.mpr c66
                subst c66
                have H1 : (if x8_56.size + 1 ≤ 9223372036854775807 then (if (Go.bits .and .u8 a1 16) = 16 then (if (x8_56 ++ (⟨#[62]⟩ : ByteArray)).size + 10 ≤ 9223372036854775807 then (remitterlaw10_draw.j6 kj60 a1 x7_3 ((x8_56 ++ (⟨#[62]⟩ : ByteArray)) ++ (⟨#[60, 33, 45, 45, 32, 120, 32, 45, 45, 62]⟩ : ByteArray)) x9_4 a0_0 a0_1 l0_2) else (none)) else (remitterlaw10_draw.j6 kj60 a1 x7_3 (x8_56 ++ (⟨#[62]⟩ : ByteArray)) x9_4 a0_0 a0_1 l0_2)) else (none)) = some r := by rw [if_neg (show ¬ (false = true) by decide)] at H; exact H
                clear H
                have H := H1
                clear H1
                by_cases c68 : x8_56.size + 1 ≤ 9223372036854775807
                ·
                 rw [if_pos c68] at H
                 have c68b0 := eq_true c68
                 have c68b1 : decide (x8_56.size + 1 ≤ 9223372036854775807) = true := decide_eq_true c68
                 try have c68b2 : (9223372036854775807 < x8_56.size + 1) = False := eq_false (Nat.not_lt.2 c68)
                 try (have c68b3 := c68b2; simp only [ByteArray.size_append, ByteArray.size_extract, Nat.min_self] at c68b3)
                 have HC69 := Aside0.mk H
                 clear H
                 go_upto_if 93 with (fail)
                 go_cut [8] (fun v8 wc => ∃ (kq : Nat) (x8_68 : ByteArray), v8 = .string x8_68 ∧ Aside0 (remitterlaw10_draw.j6 kq a1 x7_3 x8_68 x9_4 a0_0 a0_1 l0_2 = some r) ∧ Aside0 (kq ≤ kj60) ∧ Aside0 (wc.heap[gb112]? = some (.cells #[.string a0_0, .string a0_1, (.slice A0_2 l0_2.length c0_2)] 24 (0, 0))) ∧ Aside0 (Below w.heap.size w wc))
                 case first =>
                  have H := HC69.out
                  clear HC69
                  by_cases c70 : (Go.bits .and .u8 a1 16) = 16
                  ·
                   rw [if_pos c70] at H
                   have c70b0 : ((Go.bits .and .u8 a1 16) == 16) = true := beq_iff_eq.mpr c70
                   have c70b1 : ((Go.bits .and .u8 a1 16) != 16) = false := bne_eq_false_iff_eq.mpr c70
                   clear c70
                   (first | rw [c70b0] | (simp only [i64_w, i32_w]; rw [c70b0]) | skip)
                   by_cases c71 : (x8_56 ++ (⟨#[62]⟩ : ByteArray)).size + 10 ≤ 9223372036854775807
                   ·
                    rw [if_pos c71] at H
                    have c71b0 := eq_true c71
                    have c71b1 : decide ((x8_56 ++ (⟨#[62]⟩ : ByteArray)).size + 10 ≤ 9223372036854775807) = true := decide_eq_true c71
                    try have c71b2 : (9223372036854775807 < (x8_56 ++ (⟨#[62]⟩ : ByteArray)).size + 10) = False := eq_false (Nat.not_lt.2 c71)
                    try (have c71b3 := c71b2; simp only [ByteArray.size_append, ByteArray.size_extract, Nat.min_self, show (⟨#[62]⟩ : ByteArray).size = 1 from rfl] at c71b3)
                    have H' := Aside0.mk H
                    clear H
                    go_wp2
                    go_meet
                    case rel => exact ⟨_, ((x8_56 ++ (⟨#[62]⟩ : ByteArray)) ++ (⟨#[60, 33, 45, 45, 32, 120, 32, 45, 45, 62]⟩ : ByteArray)), rf3, H', ⟨by have := HJ3.out; have := HJ9.out; have := HJ11.out; have := HK4.out; have := HJ56.out; have := HJ60.out; first | omega | exact Nat.le_refl _⟩, ⟨by (with_reducible repeat (first | refine blk_drewN ?_ _ | refine blk_drew ?_ | refine blk_alloc ?_ _)); exact BK112.out⟩, ⟨by repeat (first | (with_reducible first | exact HB.out | apply below_alloc | apply pw_below_drewN | apply below_drew1 | refine below_set ?_ GE112.out) | exact HB.out)⟩⟩
                   ·
                    rw [if_neg c71] at H
                    exact absurd H (by simp)
                  ·
                   rw [if_neg c70] at H
                   have c70b0 : ((Go.bits .and .u8 a1 16) == 16) = false := beq_eq_false_iff_ne.mpr c70
                   have c70b1 : ((Go.bits .and .u8 a1 16) != 16) = true := bne_iff_ne.mpr c70
                   (first | rw [c70b0] | (simp only [i64_w, i32_w]; rw [c70b0]) | skip)
                   have H' := Aside0.mk H
                   clear H
                   go_wp2
                   go_meet
                   case rel => exact ⟨_, (x8_56 ++ (⟨#[62]⟩ : ByteArray)), rf3, H', ⟨by have := HJ3.out; have := HJ9.out; have := HJ11.out; have := HK4.out; have := HJ56.out; have := HJ60.out; first | omega | exact Nat.le_refl _⟩, ⟨by (with_reducible repeat (first | refine blk_drewN ?_ _ | refine blk_drew ?_ | refine blk_alloc ?_ _)); exact BK112.out⟩, ⟨by repeat (first | (with_reducible first | exact HB.out | apply below_alloc | apply pw_below_drewN | apply below_drew1 | refine below_set ?_ GE112.out) | exact HB.out)⟩⟩
                 case rest =>
                  clear HC69
                  try clear c7
                  try clear c11
                  try clear c17
                  try clear c17b0
                  try clear c18
                  try clear c18b0
                  try clear c19
                  try clear c19b0
                  try clear c19b1
                  try clear p20
                  try clear q20
                  try clear hx20
                  try clear qi20
                  try clear c21
                  try clear c21b0
                  try clear c21b1
                  try clear c22
                  try clear c22b0
                  try clear c22b1
                  try clear c23
                  try clear c23b0
                  try clear c23b1
                  try clear c23b2
                  try clear c24
                  try clear c24b0
                  try clear c24b1
                  try clear c25
                  try clear c25b0
                  try clear c25b1
                  try clear c25b2
                  try clear c26
                  try clear c26b0
                  try clear c26b1
                  try clear c26b2
                  try clear c27
                  try clear c27b0
                  try clear c27b1
                  try clear c27b2
                  try clear c29
                  try clear c29b0
                  try clear c29b1
                  try clear c29b2
                  try clear c30
                  try clear c30b0
                  try clear c30b1
                  try clear c30b2
                  try clear c38
                  try clear c38b0
                  try clear c38b1
                  try clear c38b2
                  try clear c39
                  try clear c39b0
                  try clear c39b1
                  try clear c40
                  try clear c40b0
                  try clear c40b1
                  try clear c40b2
                  try clear c41
                  try clear c41b0
                  try clear c41b1
                  try clear c41b2
                  try clear c42
                  try clear c42b0
                  try clear c42b1
                  try clear c42b2
                  try clear c44
                  try clear c44b0
                  try clear c44b1
                  try clear c44b2
                  try clear c45
                  try clear c45b0
                  try clear c45b1
                  try clear c45b2
                  try clear c59
                  try clear c59b0
                  try clear c59b1
                  try clear c60
                  try clear c60b0
                  try clear c60b1
                  try clear c60b2
                  try clear c62
                  try clear c62b0
                  try clear c62b1
                  try clear c63
                  try clear c63b0
                  try clear c63b1
                  try clear c66
                  try clear c67
                  try clear c67b0
                  try clear c67b1
                  try clear c67b2
                  try clear c68
                  try clear c68b0
                  try clear c68b1
                  try clear c68b2
                  try clear c70
                  try clear c70b0
                  try clear c70b1
                  try clear c71
                  try clear c71b0
                  try clear c71b1
                  try clear c71b2
                  try clear hcz31_0
                  try clear hcz31_1
                  try clear hcz31_2
                  try clear hcz34_0
                  try clear hcz34_1
                  try clear hcz34_2
                  try clear hcz46_0
                  try clear hcz46_1
                  try clear hcz46_2
                  try clear hcz49_0
                  try clear hcz49_1
                  try clear hcz49_2
                  try clear hcz53_0
                  try clear hcz53_1
                  try clear hcz53_2
                  try clear hcz56_0
                  try clear hcz56_1
                  try clear hcz56_2
                  try clear hcz58_0
                  try clear hcz58_1
                  try clear hcz58_2
                  try clear hcz64_0
                  try clear hcz64_1
                  try clear hcz64_2
                  try clear hcz65_0
                  try clear hcz65_1
                  try clear hcz65_2
                  try clear hfz31_0
                  try clear hfz31_1
                  try clear hfz31_2
                  try clear hfz34_0
                  try clear hfz34_1
                  try clear hfz34_2
                  try clear hfz46_0
                  try clear hfz46_1
                  try clear hfz46_2
                  try clear hfz49_0
                  try clear hfz49_1
                  try clear hfz49_2
                  try clear hfz53_0
                  try clear hfz53_1
                  try clear hfz53_2
                  try clear hfz56_0
                  try clear hfz56_1
                  try clear hfz56_2
                  try clear hfz58_0
                  try clear hfz58_1
                  try clear hfz58_2
                  try clear hfz64_0
                  try clear hfz64_1
                  try clear hfz64_2
                  try clear hfz65_0
                  try clear hfz65_1
                  try clear hfz65_2
                  try clear hx113_0
                  try clear hx113_1
                  try clear hx113_2
                  try clear p113
                  try clear p20
                  try clear q113
                  try clear q20
                  obtain ⟨kq, x8_68, rfl, HA, HJ68, BK112, HB⟩ := hcut
                  cases kq with
                  | zero => exact absurd HA.out (by simp [remitterlaw10_draw.j6])
                  | succ kj68 =>
                   have H := HA.out
                   clear HA
                   simp only [remitterlaw10_draw.j6] at H
                   have HC72 := Aside0.mk H
                   clear H
                   go_upto_if 97 with (fail)
                   go_cut [8] (fun v8 wc => ∃ (kq : Nat) (x8_71 : ByteArray), v8 = .string x8_71 ∧ Aside0 (remitterlaw10_draw.j7 kq a1 x7_3 x8_71 a0_0 a0_1 l0_2 = some r) ∧ Aside0 (kq ≤ kj68) ∧ Aside0 (wc.heap[gb112]? = some (.cells #[.string a0_0, .string a0_1, (.slice A0_2 l0_2.length c0_2)] 24 (0, 0))) ∧ Aside0 (Below w.heap.size w wc))
                   case first =>
                    have H := HC72.out
                    clear HC72
                    by_cases c73 : x9_4 = 0
                    ·
                     rw [if_pos c73] at H
                     have c73b0 : (x9_4 == 0) = true := beq_iff_eq.mpr c73
                     have c73b1 : (x9_4 != 0) = false := bne_eq_false_iff_eq.mpr c73
                     clear c73
                     (first | rw [c73b0] | (simp only [i64_w, i32_w]; rw [c73b0]) | skip)
                     replace H := Option.bind_eq_some_iff.mp H
                     obtain ⟨t117, A740, H⟩ := H
                     replace H : (if x8_68.size + t117.size ≤ 9223372036854775807 then (if (Go.bits .and .u8 a1 32) = 32 then (if (x8_68 ++ t117).size + 12 ≤ 9223372036854775807 then (remitterlaw10_draw.j7 kj68 a1 x7_3 ((x8_68 ++ t117) ++ (⟨#[60, 33, 91, 67, 68, 65, 84, 65, 91, 93, 93, 62]⟩ : ByteArray)) a0_0 a0_1 l0_2) else (none)) else (remitterlaw10_draw.j7 kj68 a1 x7_3 (x8_68 ++ t117) a0_0 a0_1 l0_2)) else (none)) = some r := H
                     have A74 := Aside0.mk A740
                     clear A740
                     by_cases c75 : x8_68.size + t117.size ≤ 9223372036854775807
                     ·
                      rw [if_pos c75] at H
                      have c75b0 := eq_true c75
                      have c75b1 : decide (x8_68.size + t117.size ≤ 9223372036854775807) = true := decide_eq_true c75
                      try have c75b2 : (9223372036854775807 < x8_68.size + t117.size) = False := eq_false (Nat.not_lt.2 c75)
                      try (have c75b3 := c75b2; simp only [ByteArray.size_append, ByteArray.size_extract, Nat.min_self] at c75b3)
                      by_cases c76 : (Go.bits .and .u8 a1 32) = 32
                      ·
                       rw [if_pos c76] at H
                       have c76b0 : ((Go.bits .and .u8 a1 32) == 32) = true := beq_iff_eq.mpr c76
                       have c76b1 : ((Go.bits .and .u8 a1 32) != 32) = false := bne_eq_false_iff_eq.mpr c76
                       clear c76
                       by_cases c77 : (x8_68 ++ t117).size + 12 ≤ 9223372036854775807
                       ·
                        rw [if_pos c77] at H
                        have c77b0 := eq_true c77
                        have c77b1 : decide ((x8_68 ++ t117).size + 12 ≤ 9223372036854775807) = true := decide_eq_true c77
                        try have c77b2 : (9223372036854775807 < (x8_68 ++ t117).size + 12) = False := eq_false (Nat.not_lt.2 c77)
                        try (have c77b3 := c77b2; simp only [ByteArray.size_append, ByteArray.size_extract, Nat.min_self] at c77b3)
                        have H' := Aside0.mk H
                        clear H
                        have hcz78_0 : wc.cell? ⟨gb112, 0, none⟩ = some (.string a0_0) := (blk_cell BK112.out 0).trans rfl
                        have hcz78_1 : wc.cell? ⟨gb112, 1, none⟩ = some (.string a0_1) := (blk_cell BK112.out 1).trans rfl
                        have hcz78_2 : wc.cell? ⟨gb112, 2, none⟩ = some (.slice A0_2 l0_2.length c0_2) := (blk_cell BK112.out 2).trans rfl
                        have hfz78_0 := blk_frozen BK112.out 0
                        have hfz78_1 := blk_frozen BK112.out 1
                        have hfz78_2 := blk_frozen BK112.out 2
                        go_wp2_with (first | ((with_reducible refine gate_callee (f := 31) rfl ?_); refine goesL_ (some 101) rfl rfl Tryz.func31 (by kernel_rfl) rfl #[.string a0_1] rfl (by (try simp only [List.map_toArray, List.map_cons, List.map_nil]); first | done | rfl | (simp only [List.length_drop, List.length_take]; rfl)) ?_; (with_reducible refine (text_Escape.calls a0_1 t117 _ A74.out (by first | exact hG | exact hG.below (by repeat (first | (with_reducible first | exact HB.out | apply below_alloc | apply pw_below_drewN | apply below_drew1) | exact HB.out)))).mono ?_); rintro e w79 ⟨rfl, hb⟩; refine ⟨_, rfl, ?_⟩; have n0_ := Aside0.mk (blk_below (g := gb112) (o := .cells #[.string a0_0, .string a0_1, .slice A0_2 l0_2.length c0_2] 24 (0, 0)) (by (with_reducible repeat (first | refine blk_drewN ?_ _ | refine blk_drew ?_ | refine blk_alloc ?_ _)); exact BK112.out) hb); have n1_ := Aside0.mk (below_step (by repeat (first | (with_reducible first | exact HB.out | apply below_alloc | apply pw_below_drewN | apply below_drew1 | refine below_set ?_ GE112.out) | exact HB.out)) hb); clear BK112; clear HB; have BK112 := n0_; have HB := n1_; clear n0_ n1_; (try clear hb); (try clear hb2); (try clear hk); (try clear hi)))
                        go_meet
                        case rel => exact ⟨_, ((x8_68 ++ t117) ++ (⟨#[60, 33, 91, 67, 68, 65, 84, 65, 91, 93, 93, 62]⟩ : ByteArray)), rf3, H', ⟨by have := HJ3.out; have := HJ9.out; have := HJ11.out; have := HK4.out; have := HJ56.out; have := HJ60.out; have := HJ68.out; first | omega | exact Nat.le_refl _⟩, ⟨by (with_reducible repeat (first | refine blk_drewN ?_ _ | refine blk_drew ?_ | refine blk_alloc ?_ _)); exact BK112.out⟩, ⟨by repeat (first | (with_reducible first | exact HB.out | apply below_alloc | apply pw_below_drewN | apply below_drew1 | refine below_set ?_ GE112.out) | exact HB.out)⟩⟩
                       ·
                        rw [if_neg c77] at H
                        exact absurd H (by simp)
                      ·
                       rw [if_neg c76] at H
                       have c76b0 : ((Go.bits .and .u8 a1 32) == 32) = false := beq_eq_false_iff_ne.mpr c76
                       have c76b1 : ((Go.bits .and .u8 a1 32) != 32) = true := bne_iff_ne.mpr c76
                       have H' := Aside0.mk H
                       clear H
                       have hcz80_0 : wc.cell? ⟨gb112, 0, none⟩ = some (.string a0_0) := (blk_cell BK112.out 0).trans rfl
                       have hcz80_1 : wc.cell? ⟨gb112, 1, none⟩ = some (.string a0_1) := (blk_cell BK112.out 1).trans rfl
                       have hcz80_2 : wc.cell? ⟨gb112, 2, none⟩ = some (.slice A0_2 l0_2.length c0_2) := (blk_cell BK112.out 2).trans rfl
                       have hfz80_0 := blk_frozen BK112.out 0
                       have hfz80_1 := blk_frozen BK112.out 1
                       have hfz80_2 := blk_frozen BK112.out 2
                       go_wp2_with (first | ((with_reducible refine gate_callee (f := 31) rfl ?_); refine goesL_ (some 101) rfl rfl Tryz.func31 (by kernel_rfl) rfl #[.string a0_1] rfl (by (try simp only [List.map_toArray, List.map_cons, List.map_nil]); first | done | rfl | (simp only [List.length_drop, List.length_take]; rfl)) ?_; (with_reducible refine (text_Escape.calls a0_1 t117 _ A74.out (by first | exact hG | exact hG.below (by repeat (first | (with_reducible first | exact HB.out | apply below_alloc | apply pw_below_drewN | apply below_drew1) | exact HB.out)))).mono ?_); rintro e w81 ⟨rfl, hb⟩; refine ⟨_, rfl, ?_⟩; have n0_ := Aside0.mk (blk_below (g := gb112) (o := .cells #[.string a0_0, .string a0_1, .slice A0_2 l0_2.length c0_2] 24 (0, 0)) (by (with_reducible repeat (first | refine blk_drewN ?_ _ | refine blk_drew ?_ | refine blk_alloc ?_ _)); exact BK112.out) hb); have n1_ := Aside0.mk (below_step (by repeat (first | (with_reducible first | exact HB.out | apply below_alloc | apply pw_below_drewN | apply below_drew1 | refine below_set ?_ GE112.out) | exact HB.out)) hb); clear BK112; clear HB; have BK112 := n0_; have HB := n1_; clear n0_ n1_; (try clear hb); (try clear hb2); (try clear hk); (try clear hi)))
                       go_meet
                       case rel => exact ⟨_, (x8_68 ++ t117), rf3, H', ⟨by have := HJ3.out; have := HJ9.out; have := HJ11.out; have := HK4.out; have := HJ56.out; have := HJ60.out; have := HJ68.out; first | omega | exact Nat.le_refl _⟩, ⟨by (with_reducible repeat (first | refine blk_drewN ?_ _ | refine blk_drew ?_ | refine blk_alloc ?_ _)); exact BK112.out⟩, ⟨by repeat (first | (with_reducible first | exact HB.out | apply below_alloc | apply pw_below_drewN | apply below_drew1 | refine below_set ?_ GE112.out) | exact HB.out)⟩⟩
                     ·
                      rw [if_neg c75] at H
                      exact absurd H (by simp)
                    ·
                     rw [if_neg c73] at H
                     have c73b0 : (x9_4 == 0) = false := beq_eq_false_iff_ne.mpr c73
                     have c73b1 : (x9_4 != 0) = true := bne_iff_ne.mpr c73
                     (first | rw [c73b0] | (simp only [i64_w, i32_w]; rw [c73b0]) | skip)
                     have H' := Aside0.mk H
                     clear H
                     go_wp2
                     go_meet
                     case rel => exact ⟨_, (x8_68), rf3, H', ⟨by have := HJ3.out; have := HJ9.out; have := HJ11.out; have := HK4.out; have := HJ56.out; have := HJ60.out; have := HJ68.out; first | omega | exact Nat.le_refl _⟩, ⟨by (with_reducible repeat (first | refine blk_drewN ?_ _ | refine blk_drew ?_ | refine blk_alloc ?_ _)); exact BK112.out⟩, ⟨by repeat (first | (with_reducible first | exact HB.out | apply below_alloc | apply pw_below_drewN | apply below_drew1 | refine below_set ?_ GE112.out) | exact HB.out)⟩⟩
                   case rest =>
                    clear HC72
                    try clear c7
                    try clear c11
                    try clear c17
                    try clear c17b0
                    try clear c18
                    try clear c18b0
                    try clear c19
                    try clear c19b0
                    try clear c19b1
                    try clear p20
                    try clear q20
                    try clear hx20
                    try clear qi20
                    try clear c21
                    try clear c21b0
                    try clear c21b1
                    try clear c22
                    try clear c22b0
                    try clear c22b1
                    try clear c23
                    try clear c23b0
                    try clear c23b1
                    try clear c23b2
                    try clear c24
                    try clear c24b0
                    try clear c24b1
                    try clear c25
                    try clear c25b0
                    try clear c25b1
                    try clear c25b2
                    try clear c26
                    try clear c26b0
                    try clear c26b1
                    try clear c26b2
                    try clear c27
                    try clear c27b0
                    try clear c27b1
                    try clear c27b2
                    try clear c29
                    try clear c29b0
                    try clear c29b1
                    try clear c29b2
                    try clear c30
                    try clear c30b0
                    try clear c30b1
                    try clear c30b2
                    try clear c38
                    try clear c38b0
                    try clear c38b1
                    try clear c38b2
                    try clear c39
                    try clear c39b0
                    try clear c39b1
                    try clear c40
                    try clear c40b0
                    try clear c40b1
                    try clear c40b2
                    try clear c41
                    try clear c41b0
                    try clear c41b1
                    try clear c41b2
                    try clear c42
                    try clear c42b0
                    try clear c42b1
                    try clear c42b2
                    try clear c44
                    try clear c44b0
                    try clear c44b1
                    try clear c44b2
                    try clear c45
                    try clear c45b0
                    try clear c45b1
                    try clear c45b2
                    try clear c59
                    try clear c59b0
                    try clear c59b1
                    try clear c60
                    try clear c60b0
                    try clear c60b1
                    try clear c60b2
                    try clear c62
                    try clear c62b0
                    try clear c62b1
                    try clear c63
                    try clear c63b0
                    try clear c63b1
                    try clear c66
                    try clear c67
                    try clear c67b0
                    try clear c67b1
                    try clear c67b2
                    try clear c68
                    try clear c68b0
                    try clear c68b1
                    try clear c68b2
                    try clear c70
                    try clear c70b0
                    try clear c70b1
                    try clear c71
                    try clear c71b0
                    try clear c71b1
                    try clear c71b2
                    try clear c73
                    try clear c73b0
                    try clear c73b1
                    try clear c75
                    try clear c75b0
                    try clear c75b1
                    try clear c75b2
                    try clear c76
                    try clear c76b0
                    try clear c76b1
                    try clear c77
                    try clear c77b0
                    try clear c77b1
                    try clear c77b2
                    try clear hcz31_0
                    try clear hcz31_1
                    try clear hcz31_2
                    try clear hcz34_0
                    try clear hcz34_1
                    try clear hcz34_2
                    try clear hcz46_0
                    try clear hcz46_1
                    try clear hcz46_2
                    try clear hcz49_0
                    try clear hcz49_1
                    try clear hcz49_2
                    try clear hcz53_0
                    try clear hcz53_1
                    try clear hcz53_2
                    try clear hcz56_0
                    try clear hcz56_1
                    try clear hcz56_2
                    try clear hcz58_0
                    try clear hcz58_1
                    try clear hcz58_2
                    try clear hcz64_0
                    try clear hcz64_1
                    try clear hcz64_2
                    try clear hcz65_0
                    try clear hcz65_1
                    try clear hcz65_2
                    try clear hcz78_0
                    try clear hcz78_1
                    try clear hcz78_2
                    try clear hcz80_0
                    try clear hcz80_1
                    try clear hcz80_2
                    try clear hfz31_0
                    try clear hfz31_1
                    try clear hfz31_2
                    try clear hfz34_0
                    try clear hfz34_1
                    try clear hfz34_2
                    try clear hfz46_0
                    try clear hfz46_1
                    try clear hfz46_2
                    try clear hfz49_0
                    try clear hfz49_1
                    try clear hfz49_2
                    try clear hfz53_0
                    try clear hfz53_1
                    try clear hfz53_2
                    try clear hfz56_0
                    try clear hfz56_1
                    try clear hfz56_2
                    try clear hfz58_0
                    try clear hfz58_1
                    try clear hfz58_2
                    try clear hfz64_0
                    try clear hfz64_1
                    try clear hfz64_2
                    try clear hfz65_0
                    try clear hfz65_1
                    try clear hfz65_2
                    try clear hfz78_0
                    try clear hfz78_1
                    try clear hfz78_2
                    try clear hfz80_0
                    try clear hfz80_1
                    try clear hfz80_2
                    try clear hx113_0
                    try clear hx113_1
                    try clear hx113_2
                    try clear p113
                    try clear p20
                    try clear q113
                    try clear q20
                    obtain ⟨kq, x8_71, rfl, HA, HJ71, BK112, HB⟩ := hcut
                    cases kq with
                    | zero => exact absurd HA.out (by simp [remitterlaw10_draw.j7])
                    | succ kj71 =>
                     have H := HA.out
                     clear HA
                     simp only [remitterlaw10_draw.j7] at H
                     have H' := Aside0.mk H
                     clear H
                     go_wp2
                     go_loopg [8, 13] kj71 (fun kq v8 v13 w' => ∃ (x8_9 : ByteArray) (x13_9 : Int), v8 = .string x8_9 ∧ v13 = .int .i64 x13_9 ∧ Aside0 (remitterlaw10_draw.l1 kq a1 x7_3 x8_9 x13_9 a0_0 a0_1 l0_2 = some r) ∧ Aside0 (kq ≤ kj71) ∧ Aside0 (w'.heap[gb112]? = some (.cells #[.string a0_0, .string a0_1, (.slice A0_2 l0_2.length c0_2)] 24 (0, 0))) ∧ Aside0 (Below w.heap.size w w'))
                     case atStart => exact ⟨(x8_71), (0), rf3, rf3, H', ⟨Nat.le_refl _⟩, ⟨by (with_reducible repeat (first | refine blk_drewN ?_ _ | refine blk_drew ?_ | refine blk_alloc ?_ _)); exact BK112.out⟩, ⟨by repeat (first | (with_reducible first | exact HB.out | apply below_alloc | apply pw_below_drewN | apply below_drew1 | refine below_set ?_ GE112.out) | exact HB.out)⟩⟩
                     case round =>
                      clear H'
                      try clear c7
                      try clear c11
                      try clear c17
                      try clear c17b0
                      try clear c18
                      try clear c18b0
                      try clear c19
                      try clear c19b0
                      try clear c19b1
                      try clear p20
                      try clear q20
                      try clear hx20
                      try clear qi20
                      try clear c21
                      try clear c21b0
                      try clear c21b1
                      try clear c22
                      try clear c22b0
                      try clear c22b1
                      try clear c23
                      try clear c23b0
                      try clear c23b1
                      try clear c23b2
                      try clear c24
                      try clear c24b0
                      try clear c24b1
                      try clear c25
                      try clear c25b0
                      try clear c25b1
                      try clear c25b2
                      try clear c26
                      try clear c26b0
                      try clear c26b1
                      try clear c26b2
                      try clear c27
                      try clear c27b0
                      try clear c27b1
                      try clear c27b2
                      try clear c29
                      try clear c29b0
                      try clear c29b1
                      try clear c29b2
                      try clear c30
                      try clear c30b0
                      try clear c30b1
                      try clear c30b2
                      try clear c38
                      try clear c38b0
                      try clear c38b1
                      try clear c38b2
                      try clear c39
                      try clear c39b0
                      try clear c39b1
                      try clear c40
                      try clear c40b0
                      try clear c40b1
                      try clear c40b2
                      try clear c41
                      try clear c41b0
                      try clear c41b1
                      try clear c41b2
                      try clear c42
                      try clear c42b0
                      try clear c42b1
                      try clear c42b2
                      try clear c44
                      try clear c44b0
                      try clear c44b1
                      try clear c44b2
                      try clear c45
                      try clear c45b0
                      try clear c45b1
                      try clear c45b2
                      try clear c59
                      try clear c59b0
                      try clear c59b1
                      try clear c60
                      try clear c60b0
                      try clear c60b1
                      try clear c60b2
                      try clear c62
                      try clear c62b0
                      try clear c62b1
                      try clear c63
                      try clear c63b0
                      try clear c63b1
                      try clear c66
                      try clear c67
                      try clear c67b0
                      try clear c67b1
                      try clear c67b2
                      try clear c68
                      try clear c68b0
                      try clear c68b1
                      try clear c68b2
                      try clear c70
                      try clear c70b0
                      try clear c70b1
                      try clear c71
                      try clear c71b0
                      try clear c71b1
                      try clear c71b2
                      try clear c73
                      try clear c73b0
                      try clear c73b1
                      try clear c75
                      try clear c75b0
                      try clear c75b1
                      try clear c75b2
                      try clear c76
                      try clear c76b0
                      try clear c76b1
                      try clear c77
                      try clear c77b0
                      try clear c77b1
                      try clear c77b2
                      try clear hcz31_0
                      try clear hcz31_1
                      try clear hcz31_2
                      try clear hcz34_0
                      try clear hcz34_1
                      try clear hcz34_2
                      try clear hcz46_0
                      try clear hcz46_1
                      try clear hcz46_2
                      try clear hcz49_0
                      try clear hcz49_1
                      try clear hcz49_2
                      try clear hcz53_0
                      try clear hcz53_1
                      try clear hcz53_2
                      try clear hcz56_0
                      try clear hcz56_1
                      try clear hcz56_2
                      try clear hcz58_0
                      try clear hcz58_1
                      try clear hcz58_2
                      try clear hcz64_0
                      try clear hcz64_1
                      try clear hcz64_2
                      try clear hcz65_0
                      try clear hcz65_1
                      try clear hcz65_2
                      try clear hcz78_0
                      try clear hcz78_1
                      try clear hcz78_2
                      try clear hcz80_0
                      try clear hcz80_1
                      try clear hcz80_2
                      try clear hfz31_0
                      try clear hfz31_1
                      try clear hfz31_2
                      try clear hfz34_0
                      try clear hfz34_1
                      try clear hfz34_2
                      try clear hfz46_0
                      try clear hfz46_1
                      try clear hfz46_2
                      try clear hfz49_0
                      try clear hfz49_1
                      try clear hfz49_2
                      try clear hfz53_0
                      try clear hfz53_1
                      try clear hfz53_2
                      try clear hfz56_0
                      try clear hfz56_1
                      try clear hfz56_2
                      try clear hfz58_0
                      try clear hfz58_1
                      try clear hfz58_2
                      try clear hfz64_0
                      try clear hfz64_1
                      try clear hfz64_2
                      try clear hfz65_0
                      try clear hfz65_1
                      try clear hfz65_2
                      try clear hfz78_0
                      try clear hfz78_1
                      try clear hfz78_2
                      try clear hfz80_0
                      try clear hfz80_1
                      try clear hfz80_2
                      try clear hx113_0
                      try clear hx113_1
                      try clear hx113_2
                      try clear p113
                      try clear p20
                      try clear q113
                      try clear q20
                      obtain ⟨x8_9, x13_9, rfl, rfl, HA, HK9, BK112, HB⟩ := hrel
                      cases gk with
                      | zero => exact absurd HA.out (by simp [remitterlaw10_draw.l1])
                      | succ k9 =>
                       have H := HA.out
                       clear HA
                       simp only [remitterlaw10_draw.l1] at H
                       by_cases c82 : x13_9 < (l0_2.length : Int)
                       ·
                        rw [if_pos c82] at H
                        have c82b0 : decide (x13_9 < (l0_2.length : Int)) = true := decide_eq_true c82
                        clear c82
                        by_cases c83 : 0 ≤ x13_9
                        ·
                         rw [if_pos c83] at H
                         have c83b0 : decide (0 ≤ x13_9) = true := decide_eq_true c83
                         clear c83
                         by_cases c84 : 0 < (((rd_T24 l0_2 x13_9).f0).size : Int)
                         ·
                          rw [if_pos c84] at H
                          have c84b0 : decide (0 < (((rd_T24 l0_2 x13_9).f0).size : Int)) = true := decide_eq_true c84
                          have c84b1 : decide (0 < ((rd_T24 l0_2 x13_9).f0).size) = true := decide_eq_true (by omega)
                          clear c84
                          by_cases c86 : (bt ((rd_T24 l0_2 x13_9).f0) 0) = 64
                          ·
                           rw [if_pos c86] at H
                           have c86b0 : ((bt ((rd_T24 l0_2 x13_9).f0) 0) == 64) = true := beq_iff_eq.mpr c86
                           have c86b1 : ((bt ((rd_T24 l0_2 x13_9).f0) 0) != 64) = false := bne_eq_false_iff_eq.mpr c86
                           clear c86
                           have H' := Aside0.mk H
                           clear H
                           have hcz87_0 : wr.cell? ⟨gb112, 0, none⟩ = some (.string a0_0) := (blk_cell BK112.out 0).trans rfl
                           have hcz87_1 : wr.cell? ⟨gb112, 1, none⟩ = some (.string a0_1) := (blk_cell BK112.out 1).trans rfl
                           have hcz87_2 : wr.cell? ⟨gb112, 2, none⟩ = some (.slice A0_2 l0_2.length c0_2) := (blk_cell BK112.out 2).trans rfl
                           have hfz87_0 := blk_frozen BK112.out 0
                           have hfz87_1 := blk_frozen BK112.out 1
                           have hfz87_2 := blk_frozen BK112.out 2
                           have p118 : 0 ≤ (x13_9 : Int) := of_decide_eq_true (by first | (with_reducible assumption) | assumption)
                           have q118 : x13_9 < (l0_2.length : Int) := of_decide_eq_true (by first | (with_reducible assumption) | assumption)
                           obtain ⟨ad118, A118_2, c118_2, e118, hx118_0, hx118_1, hx118_2, hl118_2, hi118_2⟩ := at_T24 HR0_2.out x13_9 p118 q118
                           cases e118
                           replace hx118_0 := (HB.out.cell (World.block_lt_of_cell? w _ hx118_0)).trans hx118_0
                           replace hx118_1 := (HB.out.cell (World.block_lt_of_cell? w _ hx118_1)).trans hx118_1
                           replace hx118_2 := (HB.out.cell (World.block_lt_of_cell? w _ hx118_2)).trans hx118_2
                           have HR118_2 := Aside0.mk hi118_2
                           have HC118_2 := Aside0.mk hl118_2
                           clear hi118_2 hl118_2
                           replace p118 := eq_true p118
                           replace q118 := eq_true q118
                           have p85 : 0 ≤ (0 : Int) := (by omega)
                           have q85 : 0 < ((rd_T24 l0_2 x13_9).f0).size := (by have : (0 : Int) < (((rd_T24 l0_2 x13_9).f0).size : Int) := of_decide_eq_true (by first | (with_reducible assumption) | assumption); omega)
                           have hx85 : ∀ h : 0 < ((rd_T24 l0_2 x13_9).f0).size, ((((rd_T24 l0_2 x13_9).f0)[0]'h).toNat : Int) = bt ((rd_T24 l0_2 x13_9).f0) 0 := bt_at ((rd_T24 l0_2 x13_9).f0) 0
                           clear p85
                           have qi85 : (0 < (((rd_T24 l0_2 x13_9).f0).size : Int)) = True := eq_true (of_decide_eq_true (by first | (with_reducible assumption) | assumption))
                           replace q85 := eq_true q85
                           go_wp2
                           go_roundg k9
                           case measure => have := HJ3.out; have := HJ9.out; have := HJ11.out; have := HK4.out; have := HJ56.out; have := HJ60.out; have := HJ68.out; have := HJ71.out; have := HK9.out; omega
                           case rel => exact ⟨(x8_9), (wrap64 (x13_9 + 1)), rf3, rf3, H', ⟨by have := HJ3.out; have := HJ9.out; have := HJ11.out; have := HK4.out; have := HJ56.out; have := HJ60.out; have := HJ68.out; have := HJ71.out; have := HK9.out; omega⟩, ⟨by (with_reducible repeat (first | refine blk_drewN ?_ _ | refine blk_drew ?_ | refine blk_alloc ?_ _)); exact BK112.out⟩, ⟨by repeat (first | (with_reducible first | exact HB.out | apply below_alloc | apply pw_below_drewN | apply below_drew1 | refine below_set ?_ GE112.out) | exact HB.out)⟩⟩
                          ·
                           rw [if_neg c86] at H
                           have c86b0 : ((bt ((rd_T24 l0_2 x13_9).f0) 0) == 64) = false := beq_eq_false_iff_ne.mpr c86
                           have c86b1 : ((bt ((rd_T24 l0_2 x13_9).f0) 0) != 64) = true := bne_iff_ne.mpr c86
                           replace H := Option.bind_eq_some_iff.mp H
                           obtain ⟨t120, A880, H⟩ := H
                           replace H : (if x8_9.size + t120.size ≤ 9223372036854775807 then (if (Go.bits .and .u8 a1 64) = 64 then (if (x8_9 ++ t120).size + 3 ≤ 9223372036854775807 then (remitterlaw10_draw.l1 k9 a1 x7_3 ((x8_9 ++ t120) ++ (⟨#[32, 10, 32]⟩ : ByteArray)) (wrap64 (x13_9 + 1)) a0_0 a0_1 l0_2) else (none)) else (remitterlaw10_draw.l1 k9 a1 x7_3 (x8_9 ++ t120) (wrap64 (x13_9 + 1)) a0_0 a0_1 l0_2)) else (none)) = some r := H
                           have A88 := Aside0.mk A880
                           clear A880
                           by_cases c89 : x8_9.size + t120.size ≤ 9223372036854775807
                           ·
                            rw [if_pos c89] at H
                            have c89b0 := eq_true c89
                            have c89b1 : decide (x8_9.size + t120.size ≤ 9223372036854775807) = true := decide_eq_true c89
                            try have c89b2 : (9223372036854775807 < x8_9.size + t120.size) = False := eq_false (Nat.not_lt.2 c89)
                            try (have c89b3 := c89b2; simp only [ByteArray.size_append, ByteArray.size_extract, Nat.min_self] at c89b3)
                            by_cases c90 : (Go.bits .and .u8 a1 64) = 64
                            ·
                             rw [if_pos c90] at H
                             have c90b0 : ((Go.bits .and .u8 a1 64) == 64) = true := beq_iff_eq.mpr c90
                             have c90b1 : ((Go.bits .and .u8 a1 64) != 64) = false := bne_eq_false_iff_eq.mpr c90
                             clear c90
                             by_cases c91 : (x8_9 ++ t120).size + 3 ≤ 9223372036854775807
                             ·
                              rw [if_pos c91] at H
                              have c91b0 := eq_true c91
                              have c91b1 : decide ((x8_9 ++ t120).size + 3 ≤ 9223372036854775807) = true := decide_eq_true c91
                              try have c91b2 : (9223372036854775807 < (x8_9 ++ t120).size + 3) = False := eq_false (Nat.not_lt.2 c91)
                              try (have c91b3 := c91b2; simp only [ByteArray.size_append, ByteArray.size_extract, Nat.min_self] at c91b3)
                              have H' := Aside0.mk H
                              clear H
                              have hcz92_0 : wr.cell? ⟨gb112, 0, none⟩ = some (.string a0_0) := (blk_cell BK112.out 0).trans rfl
                              have hcz92_1 : wr.cell? ⟨gb112, 1, none⟩ = some (.string a0_1) := (blk_cell BK112.out 1).trans rfl
                              have hcz92_2 : wr.cell? ⟨gb112, 2, none⟩ = some (.slice A0_2 l0_2.length c0_2) := (blk_cell BK112.out 2).trans rfl
                              have hfz92_0 := blk_frozen BK112.out 0
                              have hfz92_1 := blk_frozen BK112.out 1
                              have hfz92_2 := blk_frozen BK112.out 2
                              have p118 : 0 ≤ (x13_9 : Int) := of_decide_eq_true (by first | (with_reducible assumption) | assumption)
                              have q118 : x13_9 < (l0_2.length : Int) := of_decide_eq_true (by first | (with_reducible assumption) | assumption)
                              obtain ⟨ad118, A118_2, c118_2, e118, hx118_0, hx118_1, hx118_2, hl118_2, hi118_2⟩ := at_T24 HR0_2.out x13_9 p118 q118
                              cases e118
                              replace hx118_0 := (HB.out.cell (World.block_lt_of_cell? w _ hx118_0)).trans hx118_0
                              replace hx118_1 := (HB.out.cell (World.block_lt_of_cell? w _ hx118_1)).trans hx118_1
                              replace hx118_2 := (HB.out.cell (World.block_lt_of_cell? w _ hx118_2)).trans hx118_2
                              have HR118_2 := Aside0.mk hi118_2
                              have HC118_2 := Aside0.mk hl118_2
                              clear hi118_2 hl118_2
                              replace p118 := eq_true p118
                              replace q118 := eq_true q118
                              have p85 : 0 ≤ (0 : Int) := (by omega)
                              have q85 : 0 < ((rd_T24 l0_2 x13_9).f0).size := (by have : (0 : Int) < (((rd_T24 l0_2 x13_9).f0).size : Int) := of_decide_eq_true (by first | (with_reducible assumption) | assumption); omega)
                              have hx85 : ∀ h : 0 < ((rd_T24 l0_2 x13_9).f0).size, ((((rd_T24 l0_2 x13_9).f0)[0]'h).toNat : Int) = bt ((rd_T24 l0_2 x13_9).f0) 0 := bt_at ((rd_T24 l0_2 x13_9).f0) 0
                              clear p85
                              have qi85 : (0 < (((rd_T24 l0_2 x13_9).f0).size : Int)) = True := eq_true (of_decide_eq_true (by first | (with_reducible assumption) | assumption))
                              replace q85 := eq_true q85
                              have p119 : 0 ≤ (x13_9 : Int) := of_decide_eq_true (by first | (with_reducible assumption) | assumption)
                              have q119 : x13_9 < (l0_2.length : Int) := of_decide_eq_true (by first | (with_reducible assumption) | assumption)
                              obtain ⟨ad119, A119_2, c119_2, e119, hx119_0, hx119_1, hx119_2, hl119_2, hi119_2⟩ := at_T24 HR0_2.out x13_9 p119 q119
                              obtain rfl : ad118 = ad119 := (by injection e119)
                              replace hx119_0 := (HB.out.cell (World.block_lt_of_cell? w _ hx119_0)).trans hx119_0
                              replace hx119_1 := (HB.out.cell (World.block_lt_of_cell? w _ hx119_1)).trans hx119_1
                              replace hx119_2 := (HB.out.cell (World.block_lt_of_cell? w _ hx119_2)).trans hx119_2
                              have HR119_2 := Aside0.mk hi119_2
                              have HC119_2 := Aside0.mk hl119_2
                              clear hi119_2 hl119_2
                              replace p119 := eq_true p119
                              replace q119 := eq_true q119
                              have ea_ := Option.some.inj (hx118_2.symm.trans hx119_2)
                              injection ea_ with ea_ en_ ec_
                              subst ea_
                              subst ec_
                              clear en_
                              go_wp2_with (first | ((with_reducible refine gate_callee (f := 39) rfl ?_); refine goesL_ (some 130) rfl rfl Tryz.func39 (by kernel_rfl) rfl #[.agg #[.string ((rd_T24 l0_2 x13_9).f0), .string ((rd_T24 l0_2 x13_9).f1), .slice A118_2 ((rd_T24 l0_2 x13_9).f2).length c118_2], .int .u8 a1, .bool false] rfl (by (try simp only [List.map_toArray, List.map_cons, List.map_nil]); first | done | rfl | (simp only [List.length_drop, List.length_take]; rfl)) ?_; (with_reducible refine (ih k9 (by have := HJ3.out; have := HJ9.out; have := HJ11.out; have := HK4.out; have := HJ56.out; have := HJ60.out; have := HJ68.out; have := HJ71.out; have := HK9.out; omega) ((rd_T24 l0_2 x13_9).f0) ((rd_T24 l0_2 x13_9).f1) _ _ ((rd_T24 l0_2 x13_9).f2) a1 false t120 _ ?side1 ?side2 A88.out (by first | exact hG | exact hG.below (by repeat (first | (with_reducible first | exact HB.out | apply below_alloc | apply pw_below_drewN | apply below_drew1) | exact HB.out)))).mono ?_); (case side1 => repeat (first | exact (Kd.C_below HR119_2.out HB.out) | (with_reducible refine Kd.C_alloc ?_ _) | (with_reducible refine Kd.C_drewN ?_ _) | (with_reducible refine Kd.C_drew ?_))); (case side2 => exact HC119_2.out); rintro e w93 ⟨rfl, hb⟩; refine ⟨_, rfl, ?_⟩; have n0_ := Aside0.mk (blk_below (g := gb112) (o := .cells #[.string a0_0, .string a0_1, .slice (some ad118) l0_2.length c0_2] 24 (0, 0)) (by (with_reducible repeat (first | refine blk_drewN ?_ _ | refine blk_drew ?_ | refine blk_alloc ?_ _)); exact BK112.out) hb); have n1_ := Aside0.mk (below_step (by repeat (first | (with_reducible first | exact HB.out | apply below_alloc | apply pw_below_drewN | apply below_drew1 | refine below_set ?_ GE112.out) | exact HB.out)) hb); clear BK112; clear HB; have BK112 := n0_; have HB := n1_; clear n0_ n1_; (try clear hb); (try clear hb2); (try clear hk); (try clear hi)))
                              go_roundg k9
                              case measure => have := HJ3.out; have := HJ9.out; have := HJ11.out; have := HK4.out; have := HJ56.out; have := HJ60.out; have := HJ68.out; have := HJ71.out; have := HK9.out; omega
                              case rel => exact ⟨((x8_9 ++ t120) ++ (⟨#[32, 10, 32]⟩ : ByteArray)), (wrap64 (x13_9 + 1)), rf3, rf3, H', ⟨by have := HJ3.out; have := HJ9.out; have := HJ11.out; have := HK4.out; have := HJ56.out; have := HJ60.out; have := HJ68.out; have := HJ71.out; have := HK9.out; omega⟩, ⟨by (with_reducible repeat (first | refine blk_drewN ?_ _ | refine blk_drew ?_ | refine blk_alloc ?_ _)); exact BK112.out⟩, ⟨by repeat (first | (with_reducible first | exact HB.out | apply below_alloc | apply pw_below_drewN | apply below_drew1 | refine below_set ?_ GE112.out) | exact HB.out)⟩⟩
                             ·
                              rw [if_neg c91] at H
                              exact absurd H (by simp)
                            ·
                             rw [if_neg c90] at H
                             have c90b0 : ((Go.bits .and .u8 a1 64) == 64) = false := beq_eq_false_iff_ne.mpr c90
                             have c90b1 : ((Go.bits .and .u8 a1 64) != 64) = true := bne_iff_ne.mpr c90
                             have H' := Aside0.mk H
                             clear H
                             have hcz94_0 : wr.cell? ⟨gb112, 0, none⟩ = some (.string a0_0) := (blk_cell BK112.out 0).trans rfl
                             have hcz94_1 : wr.cell? ⟨gb112, 1, none⟩ = some (.string a0_1) := (blk_cell BK112.out 1).trans rfl
                             have hcz94_2 : wr.cell? ⟨gb112, 2, none⟩ = some (.slice A0_2 l0_2.length c0_2) := (blk_cell BK112.out 2).trans rfl
                             have hfz94_0 := blk_frozen BK112.out 0
                             have hfz94_1 := blk_frozen BK112.out 1
                             have hfz94_2 := blk_frozen BK112.out 2
                             have p118 : 0 ≤ (x13_9 : Int) := of_decide_eq_true (by first | (with_reducible assumption) | assumption)
                             have q118 : x13_9 < (l0_2.length : Int) := of_decide_eq_true (by first | (with_reducible assumption) | assumption)
                             obtain ⟨ad118, A118_2, c118_2, e118, hx118_0, hx118_1, hx118_2, hl118_2, hi118_2⟩ := at_T24 HR0_2.out x13_9 p118 q118
                             cases e118
                             replace hx118_0 := (HB.out.cell (World.block_lt_of_cell? w _ hx118_0)).trans hx118_0
                             replace hx118_1 := (HB.out.cell (World.block_lt_of_cell? w _ hx118_1)).trans hx118_1
                             replace hx118_2 := (HB.out.cell (World.block_lt_of_cell? w _ hx118_2)).trans hx118_2
                             have HR118_2 := Aside0.mk hi118_2
                             have HC118_2 := Aside0.mk hl118_2
                             clear hi118_2 hl118_2
                             replace p118 := eq_true p118
                             replace q118 := eq_true q118
                             have p85 : 0 ≤ (0 : Int) := (by omega)
                             have q85 : 0 < ((rd_T24 l0_2 x13_9).f0).size := (by have : (0 : Int) < (((rd_T24 l0_2 x13_9).f0).size : Int) := of_decide_eq_true (by first | (with_reducible assumption) | assumption); omega)
                             have hx85 : ∀ h : 0 < ((rd_T24 l0_2 x13_9).f0).size, ((((rd_T24 l0_2 x13_9).f0)[0]'h).toNat : Int) = bt ((rd_T24 l0_2 x13_9).f0) 0 := bt_at ((rd_T24 l0_2 x13_9).f0) 0
                             clear p85
                             have qi85 : (0 < (((rd_T24 l0_2 x13_9).f0).size : Int)) = True := eq_true (of_decide_eq_true (by first | (with_reducible assumption) | assumption))
                             replace q85 := eq_true q85
                             have p119 : 0 ≤ (x13_9 : Int) := of_decide_eq_true (by first | (with_reducible assumption) | assumption)
                             have q119 : x13_9 < (l0_2.length : Int) := of_decide_eq_true (by first | (with_reducible assumption) | assumption)
                             obtain ⟨ad119, A119_2, c119_2, e119, hx119_0, hx119_1, hx119_2, hl119_2, hi119_2⟩ := at_T24 HR0_2.out x13_9 p119 q119
                             obtain rfl : ad118 = ad119 := (by injection e119)
                             replace hx119_0 := (HB.out.cell (World.block_lt_of_cell? w _ hx119_0)).trans hx119_0
                             replace hx119_1 := (HB.out.cell (World.block_lt_of_cell? w _ hx119_1)).trans hx119_1
                             replace hx119_2 := (HB.out.cell (World.block_lt_of_cell? w _ hx119_2)).trans hx119_2
                             have HR119_2 := Aside0.mk hi119_2
                             have HC119_2 := Aside0.mk hl119_2
                             clear hi119_2 hl119_2
                             replace p119 := eq_true p119
                             replace q119 := eq_true q119
                             have ea_ := Option.some.inj (hx118_2.symm.trans hx119_2)
                             injection ea_ with ea_ en_ ec_
                             subst ea_
                             subst ec_
                             clear en_
                             go_wp2_with (first | ((with_reducible refine gate_callee (f := 39) rfl ?_); refine goesL_ (some 130) rfl rfl Tryz.func39 (by kernel_rfl) rfl #[.agg #[.string ((rd_T24 l0_2 x13_9).f0), .string ((rd_T24 l0_2 x13_9).f1), .slice A118_2 ((rd_T24 l0_2 x13_9).f2).length c118_2], .int .u8 a1, .bool false] rfl (by (try simp only [List.map_toArray, List.map_cons, List.map_nil]); first | done | rfl | (simp only [List.length_drop, List.length_take]; rfl)) ?_; (with_reducible refine (ih k9 (by have := HJ3.out; have := HJ9.out; have := HJ11.out; have := HK4.out; have := HJ56.out; have := HJ60.out; have := HJ68.out; have := HJ71.out; have := HK9.out; omega) ((rd_T24 l0_2 x13_9).f0) ((rd_T24 l0_2 x13_9).f1) _ _ ((rd_T24 l0_2 x13_9).f2) a1 false t120 _ ?side1 ?side2 A88.out (by first | exact hG | exact hG.below (by repeat (first | (with_reducible first | exact HB.out | apply below_alloc | apply pw_below_drewN | apply below_drew1) | exact HB.out)))).mono ?_); (case side1 => repeat (first | exact (Kd.C_below HR119_2.out HB.out) | (with_reducible refine Kd.C_alloc ?_ _) | (with_reducible refine Kd.C_drewN ?_ _) | (with_reducible refine Kd.C_drew ?_))); (case side2 => exact HC119_2.out); rintro e w95 ⟨rfl, hb⟩; refine ⟨_, rfl, ?_⟩; have n0_ := Aside0.mk (blk_below (g := gb112) (o := .cells #[.string a0_0, .string a0_1, .slice (some ad118) l0_2.length c0_2] 24 (0, 0)) (by (with_reducible repeat (first | refine blk_drewN ?_ _ | refine blk_drew ?_ | refine blk_alloc ?_ _)); exact BK112.out) hb); have n1_ := Aside0.mk (below_step (by repeat (first | (with_reducible first | exact HB.out | apply below_alloc | apply pw_below_drewN | apply below_drew1 | refine below_set ?_ GE112.out) | exact HB.out)) hb); clear BK112; clear HB; have BK112 := n0_; have HB := n1_; clear n0_ n1_; (try clear hb); (try clear hb2); (try clear hk); (try clear hi)))
                             go_roundg k9
                             case measure => have := HJ3.out; have := HJ9.out; have := HJ11.out; have := HK4.out; have := HJ56.out; have := HJ60.out; have := HJ68.out; have := HJ71.out; have := HK9.out; omega
                             case rel => exact ⟨(x8_9 ++ t120), (wrap64 (x13_9 + 1)), rf3, rf3, H', ⟨by have := HJ3.out; have := HJ9.out; have := HJ11.out; have := HK4.out; have := HJ56.out; have := HJ60.out; have := HJ68.out; have := HJ71.out; have := HK9.out; omega⟩, ⟨by (with_reducible repeat (first | refine blk_drewN ?_ _ | refine blk_drew ?_ | refine blk_alloc ?_ _)); exact BK112.out⟩, ⟨by repeat (first | (with_reducible first | exact HB.out | apply below_alloc | apply pw_below_drewN | apply below_drew1 | refine below_set ?_ GE112.out) | exact HB.out)⟩⟩
                           ·
                            rw [if_neg c89] at H
                            exact absurd H (by simp)
                         ·
                          rw [if_neg c84] at H
                          exact absurd H (by simp)
                        ·
                         rw [if_neg c83] at H
                         exact absurd H (by simp)
                       ·
                        rw [if_neg c82] at H
                        have c82b0 : decide (x13_9 < (l0_2.length : Int)) = false := decide_eq_false c82
                        clear c82
                        by_cases c96 : x8_9.size + 2 ≤ 9223372036854775807
                        ·
                         rw [if_pos c96] at H
                         have c96b0 := eq_true c96
                         have c96b1 : decide (x8_9.size + 2 ≤ 9223372036854775807) = true := decide_eq_true c96
                         try have c96b2 : (9223372036854775807 < x8_9.size + 2) = False := eq_false (Nat.not_lt.2 c96)
                         try (have c96b3 := c96b2; simp only [ByteArray.size_append, ByteArray.size_extract, Nat.min_self] at c96b3)
                         by_cases c97 : (x8_9 ++ (⟨#[60, 47]⟩ : ByteArray)).size + x7_3.size ≤ 9223372036854775807
                         ·
                          rw [if_pos c97] at H
                          have c97b0 := eq_true c97
                          have c97b1 : decide ((x8_9 ++ (⟨#[60, 47]⟩ : ByteArray)).size + x7_3.size ≤ 9223372036854775807) = true := decide_eq_true c97
                          try have c97b2 : (9223372036854775807 < (x8_9 ++ (⟨#[60, 47]⟩ : ByteArray)).size + x7_3.size) = False := eq_false (Nat.not_lt.2 c97)
                          try (have c97b3 := c97b2; simp only [ByteArray.size_append, ByteArray.size_extract, Nat.min_self, show (⟨#[60, 47]⟩ : ByteArray).size = 2 from rfl] at c97b3)
                          by_cases c98 : ((x8_9 ++ (⟨#[60, 47]⟩ : ByteArray)) ++ x7_3).size + 1 ≤ 9223372036854775807
                          ·
                           rw [if_pos c98] at H
                           have c98b0 := eq_true c98
                           have c98b1 : decide (((x8_9 ++ (⟨#[60, 47]⟩ : ByteArray)) ++ x7_3).size + 1 ≤ 9223372036854775807) = true := decide_eq_true c98
                           try have c98b2 : (9223372036854775807 < ((x8_9 ++ (⟨#[60, 47]⟩ : ByteArray)) ++ x7_3).size + 1) = False := eq_false (Nat.not_lt.2 c98)
                           try (have c98b3 := c98b2; simp only [ByteArray.size_append, ByteArray.size_extract, Nat.min_self, show (⟨#[60, 47]⟩ : ByteArray).size = 2 from rfl] at c98b3)
                           obtain rfl := Option.some.inj H
                           have hcz99_0 : wr.cell? ⟨gb112, 0, none⟩ = some (.string a0_0) := (blk_cell BK112.out 0).trans rfl
                           have hcz99_1 : wr.cell? ⟨gb112, 1, none⟩ = some (.string a0_1) := (blk_cell BK112.out 1).trans rfl
                           have hcz99_2 : wr.cell? ⟨gb112, 2, none⟩ = some (.slice A0_2 l0_2.length c0_2) := (blk_cell BK112.out 2).trans rfl
                           have hfz99_0 := blk_frozen BK112.out 0
                           have hfz99_1 := blk_frozen BK112.out 1
                           have hfz99_2 := blk_frozen BK112.out 2
                           go_wp2
                           go_ret
                           exact ⟨by first | rfl | (simp [errW_none, errW_some] <;> rfl) | (simp [*, errW_none, errW_some] <;> rfl), by repeat (first | (with_reducible first | exact HB.out | apply below_alloc | apply pw_below_drewN | apply below_drew1 | refine below_set ?_ GE112.out) | exact HB.out)⟩
                          ·
                           rw [if_neg c98] at H
                           exact absurd H (by simp)
                         ·
                          rw [if_neg c97] at H
                          exact absurd H (by simp)
                        ·
                         rw [if_neg c96] at H
                         exact absurd H (by simp)
                ·
                 rw [if_neg c68] at H
                 exact absurd H (by simp)
   ·
    rw [if_neg c9] at H
    exact absurd H (by simp)
end Go.Proofs.YtknfpggiigncpaaGreatDoor.E
