/- Parts of the proof. -/
import Derived.Test.YtknfpggiigncpaaGreatDoorTr7
import Derived.Test.YtknfpggiigncpaaGreatDoorProg
import Derived.Below
import Derived.Deep.Draws
import Derived.Deep.AppendLies
import Derived.Maps.AppendAt
import Derived.OwnWalk
import Derived.Laws.BytesArg
import Derived.Laws.MakeOwn
import Derived.Laws.OwnMore
import Derived.Deep.OwnRows
import Derived.Tactics
import Derived.Lib.ConvBytes
import Derived.Laws.Slices
import Derived.WalkKit
import Derived.KernelRfl
import Derived.RowKit3
import Derived.Deep.LoopGhost
import Derived.Deep.QuietTactic
import Derived.BigQuiet
import Derived.WideLaws
import Derived.Deep.DeepCutAuto
import Derived.Deep.CutBlock
import Derived.Deep.RegionHeld3
import Derived.Laws.Rows
import Derived.Lib.AppendStr
import Derived.ArgAppend
import Derived.Laws.IdiomCopy
import Derived.OrdersHeld
import Derived.Laws.BitsLemmas
import Derived.RowKit
import Derived.Test.YtknfpggiigncpaaGreatDoorWWords
import Derived.Test.YtknfpggiigncpaaGreatDoorWLast
import Derived.Test.YtknfpggiigncpaaGreatDoorWTab
import Derived.Test.YtknfpggiigncpaaGreatDoorWMore
import Derived.Laws.StructEq
set_option maxHeartbeats 8000000
set_option maxRecDepth 100000
set_option linter.unusedVariables false
set_option linter.unusedSimpArgs false
section
namespace Go.Proofs.YtknfpggiigncpaaGreatDoor.T
open Go.RowKit P E YtknfpggiigncpaaGreatDoorW.PrintLast YtknfpggiigncpaaGreatDoorW.PrintMore
open YtknfpggiigncpaaGreatDoorW.PrintWords
def tt1 : ByteArray := ⟨#[60, 112, 58, 97, 32, 120, 109, 108, 110, 115, 58, 112, 61, 34, 117, 34, 32, 120, 61, 34, 49, 34, 62, 60, 112, 58, 98, 62, 116, 60, 47, 112, 58, 98, 62, 60, 47, 112, 58, 97, 62]⟩
def tt2 : ByteArray := ⟨#[60, 97, 62, 60, 98, 62, 60, 47, 97, 62, 60, 47, 98, 62]⟩
def tt3 : ByteArray := ⟨#[60, 97, 32, 120, 109, 108, 110, 115, 61, 34, 117, 34, 62, 60, 98, 32, 120, 109, 108, 110, 115, 61, 34, 118, 34, 47, 62, 60, 47, 97, 62]⟩
def tt4 : ByteArray := ⟨#[]⟩
theorem tt1_v : parseT tt1 = ⟨⟨#[117]⟩, ⟨⟨#[97]⟩, ⟨#[]⟩, [⟨⟨#[64, 120]⟩, ⟨#[49]⟩, []⟩, ⟨⟨#[98]⟩, ⟨#[116]⟩, []⟩]⟩, 41, 0⟩ := by kernel_rfl
theorem tt2_v : parseT tt2 = ⟨⟨#[]⟩, ⟨⟨#[]⟩, ⟨#[]⟩, []⟩, 6, 23⟩ := by kernel_rfl
theorem tt3_v : parseT tt3 = ⟨⟨#[]⟩, ⟨⟨#[]⟩, ⟨#[]⟩, []⟩, 13, 24⟩ := by kernel_rfl
theorem tt4_v : parseT tt4 = ⟨⟨#[]⟩, ⟨⟨#[]⟩, ⟨#[]⟩, []⟩, 0, 23⟩ := by kernel_rfl
theorem tt1_c (w : World) (hG : Glob w) : Calls Tryz.prog 36 #[.string tt1] w (TreePost w ⟨⟨#[117]⟩, ⟨⟨#[97]⟩, ⟨#[]⟩, [⟨⟨#[64, 120]⟩, ⟨#[49]⟩, []⟩, ⟨⟨#[98]⟩, ⟨#[116]⟩, []⟩]⟩, 41, 0⟩) := by
 have h := parse_any tt1 w (by decide) hG
 rw [tt1_v] at h
 exact h
theorem tt2_c (w : World) (hG : Glob w) : Calls Tryz.prog 36 #[.string tt2] w (TreePost w ⟨⟨#[]⟩, ⟨⟨#[]⟩, ⟨#[]⟩, []⟩, 6, 23⟩) := by
 have h := parse_any tt2 w (by decide) hG
 rw [tt2_v] at h
 exact h
theorem tt3_c (w : World) (hG : Glob w) : Calls Tryz.prog 36 #[.string tt3] w (TreePost w ⟨⟨#[]⟩, ⟨⟨#[]⟩, ⟨#[]⟩, []⟩, 13, 24⟩) := by
 have h := parse_any tt3 w (by decide) hG
 rw [tt3_v] at h
 exact h
theorem tt4_c (w : World) (hG : Glob w) : Calls Tryz.prog 36 #[.string tt4] w (TreePost w ⟨⟨#[]⟩, ⟨⟨#[]⟩, ⟨#[]⟩, []⟩, 0, 23⟩) := by
 have h := parse_any tt4 w (by decide) hG
 rw [tt4_v] at h
 exact h
theorem twakes_any (w : World) (hG : Glob w) : Calls Tryz.prog 35 #[] w fun e w' => e = .returned (.bool true) ∧ Below w.heap.size w w' := by
 have HG := Lib.hid hG
 clear hG
 go_enter Tryz.func35, Tryz.ntmps35
 go_wp2_with fail
 refine (tt1_c w HG.out).mono ?_
 rintro e w1 ⟨A1, c1, rfl, hc1, hC1, hb1⟩
 have hba1 := below_alloc (Below.refl w1.heap.size w1) (.cells #[.string ⟨#[97]⟩, .string ⟨#[]⟩, .slice A1 2 c1] 24)
 have hk1 := (MapKept.heap_alloc w1 (.cells #[.string ⟨#[97]⟩, .string ⟨#[]⟩, .slice A1 2 c1] 24)).1
 have HB2 := Lib.hid (hb1.trans (hba1.mono hb1.size))
 have HC2 := Lib.hid (Kd.C_below hC1 hba1)
 clear hC1 hb1 hba1
 dsimp only [List.length]
 go_wp2_with fail
 generalize w1.heap.size = ga at hk1 ⊢
 generalize w1.alloc _ = w2 at hk1 HB2 HC2 ⊢
 refine (tt2_c w2 (HG.out.below HB2.out)).mono ?_
 rintro e w3 ⟨A2, c2, rfl, hc2, hC2, hb3⟩
 have hba3 := below_alloc (Below.refl w3.heap.size w3) (.cells #[.string ⟨#[]⟩, .string ⟨#[]⟩, .slice A2 0 c2] 24)
 have hb34 := hb3.trans (hba3.mono hb3.size)
 have HB4 := Lib.hid (HB2.out.trans (hb34.mono HB2.out.size))
 have HC4 := Lib.hid (Kd.C_below HC2.out hb34)
 have hk4 := (hb34.block ga (Array.getElem?_eq_some_iff.1 hk1).1).trans hk1
 clear hC2 hb3 hba3 hb34 HB2 HC2 hk1
 dsimp only [List.length]
 go_wp2_with fail
 generalize w3.heap.size = gb
 generalize w3.alloc _ = w4 at hk4 HB4 HC4 ⊢
 refine (tt3_c w4 (HG.out.below HB4.out)).mono ?_
 rintro e w5 ⟨A3, c3, rfl, hc3, hC3, hb5⟩
 have hba5 := below_alloc (Below.refl w5.heap.size w5) (.cells #[.string ⟨#[]⟩, .string ⟨#[]⟩, .slice A3 0 c3] 24)
 have hb56 := hb5.trans (hba5.mono hb5.size)
 have HB6 := Lib.hid (HB4.out.trans (hb56.mono HB4.out.size))
 have HC6 := Lib.hid (Kd.C_below HC4.out hb56)
 have hk6 := (hb56.block ga (Array.getElem?_eq_some_iff.1 hk4).1).trans hk4
 clear hC3 hb5 hba5 hb56 HB4 HC4 hk4
 dsimp only [List.length]
 go_wp2_with fail
 generalize w5.heap.size = gc
 generalize w5.alloc _ = w6 at hk6 HB6 HC6 ⊢
 refine (tt4_c w6 (HG.out.below HB6.out)).mono ?_
 rintro e w7 ⟨A4, c4, rfl, hc4, hC4, hb7⟩
 have hba7 := below_alloc (Below.refl w7.heap.size w7) (.cells #[.string ⟨#[]⟩, .string ⟨#[]⟩, .slice A4 0 c4] 24)
 have hb78 := hb7.trans (hba7.mono hb7.size)
 have HB8 := Lib.hid (HB6.out.trans (hb78.mono HB6.out.size))
 have HC8 := Lib.hid (Kd.C_below HC6.out hb78)
 have hk8 := (hb78.block ga (Array.getElem?_eq_some_iff.1 hk6).1).trans hk6
 clear hC4 hb7 hba7 hb78 HB6 HC6 hk6
 obtain ⟨ad, B2, d2, e, hx0, hx1, hx2, hx3, hx4⟩ := at_T24 HC8.out 0 (by decide) (by decide)
 obtain ⟨ad', B3, d3, e', hy0, hy1, hy2, hy3, hy4⟩ := at_T24 HC8.out 1 (by decide) (by decide)
 cases e
 cases e'
 simp [rd_T24] at hx0 hy0 hy1
 replace hx0 : _ = _ := (congrArg _ (show ad = ad.add 0 from by cases ad; rfl)).trans hx0
 clear hx1 hx2 hx3 hx4 hy2 hy3 hy4
 have a0 := crow 0 (Value.string ⟨#[97]⟩) hk8
 have a2 := crow 2 (Value.slice (some ad) 2 c1) hk8
 clear hk8
 dsimp only [List.length]
 go_upto_region 5 with fail
 generalize w7.heap.size = gd
 generalize w7.alloc _ = w8 at a0 a2 hx0 hy0 hy1 HB8 ⊢
 have hy0' : w8.cell? ⟨ad.block, ad.off + 3, none⟩ = _ := hy0
 have hy1' : w8.cell? ⟨ad.block, ad.off + 3 + 1, none⟩ = _ := hy1
 go_wp2_with fail
 go_ret
 exact ⟨rfl, HB8.out⟩
end Go.Proofs.YtknfpggiigncpaaGreatDoor.T
end
section
namespace Go.Proofs.YtknfpggiigncpaaGreatDoor.F
open Go.RowKit YtknfpggiigncpaaGreatDoorW.PrintWords YtknfpggiigncpaaGreatDoorW.PrintLast YtknfpggiigncpaaGreatDoorW.PrintMore
attribute [local go_sem] max2_int min2_int max_two min_two max_three min_three max_four min_four
/-! #### struct type 174 -/
structure S174 where
 f0 : ByteArray
 f1 : ByteArray
def z174 : S174 := ⟨(⟨#[]⟩ : ByteArray), (⟨#[]⟩ : ByteArray)⟩
def k174 : Kd S174 := Kd.iso (Kd.pair Kd.string Kd.string) (fun x : S174 => (x.f0, x.f1))
theorem k174_open {w : World} {x : S174} {cs : List Value} (h : k174.K w x cs) : cs = [.string x.f0, .string x.f1] := by
 obtain ⟨_, _, rfl, rfl, rfl⟩ := h
 exact rfl
theorem k174_mk (w : World) (x : S174)  : k174.K w x [.string x.f0, .string x.f1] := ⟨[.string x.f0], [.string x.f1], rfl, rfl, rfl⟩
theorem k174_mkM (w : World) (base : Nat) (ok : Nat → Prop) (x : S174)  : k174.M w base ok x [.string x.f0, .string x.f1] := ⟨[.string x.f0], [.string x.f1], rfl, rfl, rfl⟩
def rd_T174 (xs : List S174) (i : Int) : S174 := xs.getD i.toNat z174
theorem at_T174 {w : World} {A : Option Addr} {n : Nat} {xs : List S174} (h : Kd.C k174 w A n xs) (i : Int) (h0 : 0 ≤ i) (h1 : i < n) : ∃ ad , A = some ad ∧ w.cell? (ad.add (i.toNat * 2)) = some (.string (rd_T174 xs i).f0) ∧ w.cell? ⟨(ad.add (i.toNat * 2)).block, (ad.add (i.toNat * 2)).off + 1, none⟩ = some (.string (rd_T174 xs i).f1) := by
 obtain ⟨ad, c, e, _, hK, hc0⟩ := Kd.C_get h z174 i h0 h1
 have hc : ∀ j u, c[j]? = some u → w.cell? (ad.add (i.toNat * 2 + j)) = some u := hc0
 obtain rfl := k174_open hK
 exact ⟨ad, e, hc 0 _ rfl, by rw [← add_field _ _ 1 (by omega)]; exact hc 1 _ rfl⟩
end Go.Proofs.YtknfpggiigncpaaGreatDoor.F
end
section
namespace Go.Proofs.YtknfpggiigncpaaGreatDoor.F
open Go.RowKit YtknfpggiigncpaaGreatDoorW.PrintWords YtknfpggiigncpaaGreatDoorW.PrintLast YtknfpggiigncpaaGreatDoorW.PrintMore
attribute [local go_sem] max2_int min2_int max_two min_two max_three min_three max_four min_four
/-! ### remitterref10_colons: function 118 -/
def remitterref10_colons.l0 : Nat → ByteArray → Int → Int → Int → Option (Int × Int)
 | 0, _, _, _, _ => none
 | k + 1, x0, x4, x5, x6 => if x6 < (x0.size : Int) then (if 0 ≤ x6 then (if (bt x0 x6) = 58 then (if x4 = 0 then (remitterref10_colons.l0 k x0 (wrap64 (x4 + 1)) x6 (wrap64 (x6 + 1))) else (remitterref10_colons.l0 k x0 (wrap64 (x4 + 1)) x5 (wrap64 (x6 + 1)))) else (remitterref10_colons.l0 k x0 x4 x5 (wrap64 (x6 + 1)))) else (none)) else (some (x4, x5))
def remitterref10_colons.f (k : Nat) (a0 : ByteArray) : Option (Int × Int) := remitterref10_colons.l0 k a0 0 (-1) 0
theorem remitterref10_colons.calls (k : Nat) (a0 : ByteArray) (r1 : Int) (r2 : Int) (w : World) (h : remitterref10_colons.f k a0 = some (r1, r2)) :
  Calls Tryz.prog 118 #[.string a0] w fun e w' => e = .returned (.tuple #[.int .i64 r1, .int .i64 r2]) ∧ Drawn0 w w' := by
 have H : (remitterref10_colons.l0 k a0 0 (-1) 0) = some (r1, r2) := h
 clear h
 have H' := Aside0.mk H
 clear H
 go_enter Tryz.func118, Tryz.ntmps118
 go_wp2
 go_loopg [4, 5, 6] k (fun kq v4 v5 v6 w' => ∃ (x4_1 : Int) (x5_1 : Int) (x6_1 : Int), v4 = .int .i64 x4_1 ∧ v5 = .int .i64 x5_1 ∧ v6 = .int .i64 x6_1 ∧ Aside0 (remitterref10_colons.l0 kq a0 x4_1 x5_1 x6_1 = some (r1, r2)) ∧ Aside0 (kq ≤ k) ∧ Drawn0 w w')
 case atStart => exact ⟨(0), ((-1)), (0), rf3, rf3, rf3, H', ⟨Nat.le_refl _⟩, dr0⟩
 case round =>
  clear H'
  try clear c1
  obtain ⟨x4_1, x5_1, x6_1, rfl, rfl, rfl, HA, HK1, ⟨m1, rfl⟩⟩ := hrel
  cases gk with
  | zero => exact absurd HA.out (by simp [remitterref10_colons.l0])
  | succ k1 =>
   have H := HA.out
   clear HA
   simp only [remitterref10_colons.l0] at H
   by_cases c2 : x6_1 < (a0.size : Int)
   ·
    rw [if_pos c2] at H
    have c2b0 : decide (x6_1 < (a0.size : Int)) = true := decide_eq_true c2
    clear c2
    by_cases c3 : 0 ≤ x6_1
    ·
     rw [if_pos c3] at H
     have c3b0 : decide (0 ≤ x6_1) = true := decide_eq_true c3
     clear c3
     by_cases c5 : (bt a0 x6_1) = 58
     ·
      rw [if_pos c5] at H
      have c5b0 : ((bt a0 x6_1) == 58) = true := beq_iff_eq.mpr c5
      have c5b1 : ((bt a0 x6_1) != 58) = false := bne_eq_false_iff_eq.mpr c5
      clear c5
      by_cases c6 : x4_1 = 0
      ·
       rw [if_pos c6] at H
       have c6b0 : (x4_1 == 0) = true := beq_iff_eq.mpr c6
       have c6b1 : (x4_1 != 0) = false := bne_eq_false_iff_eq.mpr c6
       clear c6
       have H' := Aside0.mk H
       clear H
       have p4 : 0 ≤ (x6_1 : Int) := of_decide_eq_true (by first | (with_reducible assumption) | assumption)
       have q4 : x6_1 < (a0.size : Int) := of_decide_eq_true (by first | (with_reducible assumption) | assumption)
       have hx4 := bt_at a0 x6_1
       replace p4 := eq_true p4
       replace q4 := eq_true q4
       go_wp2
       go_roundg k1
       case measure => have := HK1.out; omega
       case rel => exact ⟨(wrap64 (x4_1 + 1)), (x6_1), (wrap64 (x6_1 + 1)), rf3, rf3, rf3, H', ⟨by have := HK1.out; omega⟩, dr0⟩
      ·
       rw [if_neg c6] at H
       have c6b0 : (x4_1 == 0) = false := beq_eq_false_iff_ne.mpr c6
       have c6b1 : (x4_1 != 0) = true := bne_iff_ne.mpr c6
       have H' := Aside0.mk H
       clear H
       have p4 : 0 ≤ (x6_1 : Int) := of_decide_eq_true (by first | (with_reducible assumption) | assumption)
       have q4 : x6_1 < (a0.size : Int) := of_decide_eq_true (by first | (with_reducible assumption) | assumption)
       have hx4 := bt_at a0 x6_1
       replace p4 := eq_true p4
       replace q4 := eq_true q4
       go_wp2
       go_roundg k1
       case measure => have := HK1.out; omega
       case rel => exact ⟨(wrap64 (x4_1 + 1)), (x5_1), (wrap64 (x6_1 + 1)), rf3, rf3, rf3, H', ⟨by have := HK1.out; omega⟩, dr0⟩
     ·
      rw [if_neg c5] at H
      have c5b0 : ((bt a0 x6_1) == 58) = false := beq_eq_false_iff_ne.mpr c5
      have c5b1 : ((bt a0 x6_1) != 58) = true := bne_iff_ne.mpr c5
      have H' := Aside0.mk H
      clear H
      have p4 : 0 ≤ (x6_1 : Int) := of_decide_eq_true (by first | (with_reducible assumption) | assumption)
      have q4 : x6_1 < (a0.size : Int) := of_decide_eq_true (by first | (with_reducible assumption) | assumption)
      have hx4 := bt_at a0 x6_1
      replace p4 := eq_true p4
      replace q4 := eq_true q4
      go_wp2
      go_roundg k1
      case measure => have := HK1.out; omega
      case rel => exact ⟨(x4_1), (x5_1), (wrap64 (x6_1 + 1)), rf3, rf3, rf3, H', ⟨by have := HK1.out; omega⟩, dr0⟩
    ·
     rw [if_neg c3] at H
     exact absurd H (by simp)
   ·
    rw [if_neg c2] at H
    have c2b0 : decide (x6_1 < (a0.size : Int)) = false := decide_eq_false c2
    clear c2
    simp only [Option.some.injEq, Prod.mk.injEq] at H
    obtain ⟨rfl, rfl⟩ := H
    go_wp2
    go_ret2
    exact d0
/-! ### remitterref10_look: function 119 -/
def remitterref10_look.l0 : Nat → List (S174) → ByteArray → Int → Option (ByteArray × Bool)
 | 0, _, _, _ => none
 | k + 1, x0, x1, x6 => if x6 ≥ 0 then (if 0 ≤ x6 then (if x6 < (x0.length : Int) then (if ((rd_T174 x0 x6).f0).toList = x1.toList then (some ((rd_T174 x0 x6).f1, true)) else (remitterref10_look.l0 k x0 x1 (wrap64 (x6 - 1)))) else (none)) else (none)) else (some ((⟨#[]⟩ : ByteArray), (x1.toList == ([] : List UInt8))))
def remitterref10_look.f (k : Nat) (l0 : List (S174)) (a1 : ByteArray) : Option (ByteArray × Bool) := remitterref10_look.l0 k l0 a1 (wrap64 ((l0.length : Int) - 1))
theorem remitterref10_look.calls (k : Nat) (A0 : Option Addr) (c0 : Nat) (l0 : List (S174)) (a1 : ByteArray) (r1 : ByteArray) (r2 : Bool) (w : World) (hr0 : Kd.C k174 w A0 l0.length l0) (hc0 : l0.length ≤ c0) (h : remitterref10_look.f k l0 a1 = some (r1, r2)) :
  Calls Tryz.prog 119 #[.slice A0 l0.length c0, .string a1] w fun e w' => e = .returned (.tuple #[.string r1, .bool r2]) ∧ Drawn0 w w' := by
 have HR0 := Aside0.mk hr0
 have HC0 := Aside0.mk hc0
 clear hr0 hc0
 have H : (remitterref10_look.l0 k l0 a1 (wrap64 ((l0.length : Int) - 1))) = some (r1, r2) := h
 clear h
 have H' := Aside0.mk H
 clear H
 go_enter Tryz.func119, Tryz.ntmps119
 go_wp2
 go_loopg [6] k (fun kq v6 w' => ∃ (x6_1 : Int), v6 = .int .i64 x6_1 ∧ Aside0 (remitterref10_look.l0 kq l0 a1 x6_1 = some (r1, r2)) ∧ Aside0 (kq ≤ k) ∧ Drawn0 w w')
 case atStart => exact ⟨(wrap64 ((l0.length : Int) - 1)), rf3, H', ⟨Nat.le_refl _⟩, dr0⟩
 case round =>
  clear H'
  try clear c1
  obtain ⟨x6_1, rfl, HA, HK1, ⟨m1, rfl⟩⟩ := hrel
  cases gk with
  | zero => exact absurd HA.out (by simp [remitterref10_look.l0])
  | succ k1 =>
   have H := HA.out
   clear HA
   simp only [remitterref10_look.l0] at H
   by_cases c3 : x6_1 ≥ 0
   ·
    rw [if_pos c3] at H
    have c3b0 : decide (0 ≤ x6_1) = true := decide_eq_true c3
    clear c3
    by_cases c4 : 0 ≤ x6_1
    ·
     rw [if_pos c4] at H
     have c4b0 : decide (0 ≤ x6_1) = true := decide_eq_true c4
     clear c4
     by_cases c5 : x6_1 < (l0.length : Int)
     ·
      rw [if_pos c5] at H
      have c5b0 : decide (x6_1 < (l0.length : Int)) = true := decide_eq_true c5
      clear c5
      by_cases c6 : ((rd_T174 l0 x6_1).f0).toList = a1.toList
      ·
       rw [if_pos c6] at H
       have c6b0 : (((rd_T174 l0 x6_1).f0).toList == a1.toList) = true := beq_iff_eq.mpr c6
       have c6b1 : (((rd_T174 l0 x6_1).f0).toList != a1.toList) = false := bne_eq_false_iff_eq.mpr c6
       clear c6
       simp only [Option.some.injEq, Prod.mk.injEq] at H
       obtain ⟨rfl, rfl⟩ := H
       have p101 : 0 ≤ (x6_1 : Int) := of_decide_eq_true (by first | (with_reducible assumption) | assumption)
       have q101 : x6_1 < (l0.length : Int) := of_decide_eq_true (by first | (with_reducible assumption) | assumption)
       obtain ⟨ad101, e101, hx101_0, hx101_1⟩ := at_T174 HR0.out x6_1 p101 q101
       cases e101
       replace p101 := eq_true p101
       replace q101 := eq_true q101
       have p102 : 0 ≤ (x6_1 : Int) := of_decide_eq_true (by first | (with_reducible assumption) | assumption)
       have q102 : x6_1 < (l0.length : Int) := of_decide_eq_true (by first | (with_reducible assumption) | assumption)
       obtain ⟨ad102, e102, hx102_0, hx102_1⟩ := at_T174 HR0.out x6_1 p102 q102
       obtain rfl : ad101 = ad102 := (by injection e102)
       replace p102 := eq_true p102
       replace q102 := eq_true q102
       go_wp2
       go_ret2
       exact d0
      ·
       rw [if_neg c6] at H
       have c6b0 : (((rd_T174 l0 x6_1).f0).toList == a1.toList) = false := beq_eq_false_iff_ne.mpr c6
       have c6b1 : (((rd_T174 l0 x6_1).f0).toList != a1.toList) = true := bne_iff_ne.mpr c6
       have H' := Aside0.mk H
       clear H
       have p101 : 0 ≤ (x6_1 : Int) := of_decide_eq_true (by first | (with_reducible assumption) | assumption)
       have q101 : x6_1 < (l0.length : Int) := of_decide_eq_true (by first | (with_reducible assumption) | assumption)
       obtain ⟨ad101, e101, hx101_0, hx101_1⟩ := at_T174 HR0.out x6_1 p101 q101
       cases e101
       replace p101 := eq_true p101
       replace q101 := eq_true q101
       go_wp2
       go_roundg k1
       case measure => have := HK1.out; omega
       case rel => exact ⟨(wrap64 (x6_1 - 1)), rf3, H', ⟨by have := HK1.out; omega⟩, dr0⟩
     ·
      rw [if_neg c5] at H
      exact absurd H (by simp)
    ·
     rw [if_neg c4] at H
     exact absurd H (by simp)
   ·
    rw [if_neg c3] at H
    have c3b0 : decide (0 ≤ x6_1) = false := decide_eq_false c3
    clear c3
    simp only [Option.some.injEq, Prod.mk.injEq] at H
    obtain ⟨rfl, rfl⟩ := H
    go_wp2
    go_ret2
    exact d0
end Go.Proofs.YtknfpggiigncpaaGreatDoor.F
end
