/- The document's own May, as it is printed, tells shapeT: plain. -/
import Derived.Test.YtknfpggiigncpaaGreatDoorProg
import Derived.Below
import Derived.Deep.Draws
import Derived.Deep.AppendLies
import Derived.Maps.AppendAt
import Derived.OwnWalk
import Derived.Laws.BytesArg
import Derived.Laws.MakeOwn
import Derived.Laws.OwnMore
import Derived.Deep.OwnRows
import Derived.Tactics
import Derived.Lib.ConvBytes
import Derived.Laws.Slices
import Derived.WalkKit
import Derived.KernelRfl
import Derived.RowKit3
import Derived.Deep.LoopGhost
import Derived.Deep.QuietTactic
import Derived.BigQuiet
import Derived.WideLaws
import Derived.Deep.DeepCutAuto
import Derived.Deep.CutBlock
import Derived.Deep.RegionHeld3
import Derived.Laws.Rows
import Derived.Lib.AppendStr
import Derived.ArgAppend
import Derived.Laws.IdiomCopy
import Derived.OrdersHeld
import Derived.Laws.BitsLemmas
import Derived.RowKit
import Derived.Test.YtknfpggiigncpaaGreatDoorWWords
import Derived.Test.YtknfpggiigncpaaGreatDoorWLast
import Derived.Test.YtknfpggiigncpaaGreatDoorWTab
import Derived.Test.YtknfpggiigncpaaGreatDoorWMore
import Derived.Laws.StructEq
import Derived.Test.YtknfpggiigncpaaGreatDoorAx0
import Derived.Test.YtknfpggiigncpaaGreatDoorXCheck
import Derived.Test.YtknfpggiigncpaaGreatDoorXRune
import Derived.Test.YtknfpggiigncpaaGreatDoorXUnesc
import Derived.Test.YtknfpggiigncpaaGreatDoorXOnce
import Derived.Test.YtknfpggiigncpaaGreatDoorOt1
import Derived.Test.YtknfpggiigncpaaGreatDoorUnFns
import Derived.Laws.DeepBits32
import Derived.Laws.Bits64b
import Derived.Laws.Runes
import Derived.Lib.Strings
import Derived.Test.YtknfpggiigncpaaGreatDoorEx1
set_option linter.unusedVariables false
set_option linter.unusedSimpArgs false
section
namespace Go.Proofs.YtknfpggiigncpaaGreatDoor.B
open Go.RowKit YtknfpggiigncpaaGreatDoorW.PrintWords YtknfpggiigncpaaGreatDoorW.PrintLast YtknfpggiigncpaaGreatDoorW.PrintMore
attribute [local go_sem] max2_int min2_int max_two min_two max_three min_three max_four min_four
end Go.Proofs.YtknfpggiigncpaaGreatDoor.B
end
section
namespace Go.Proofs.YtknfpggiigncpaaGreatDoor.B
open P
open Go.RowKit YtknfpggiigncpaaGreatDoorW.PrintWords YtknfpggiigncpaaGreatDoorW.PrintLast YtknfpggiigncpaaGreatDoorW.PrintMore
attribute [local go_sem] max2_int min2_int max_two min_two max_three min_three max_four min_four
/-! ### remitterlaw08_wakes: function 26 -/
/-! ### remitterref05_size: function 99 -/
/-! ### remitterref05_Chars: function 63 -/
end Go.Proofs.YtknfpggiigncpaaGreatDoor.B
end
section
namespace Go.Proofs.YtknfpggiigncpaaGreatDoor.B
open P
open Go.RowKit YtknfpggiigncpaaGreatDoorW.PrintWords YtknfpggiigncpaaGreatDoorW.PrintLast YtknfpggiigncpaaGreatDoorW.PrintMore
attribute [local go_sem] max2_int min2_int max_two min_two max_three min_three max_four min_four
/-! ### remitterref08_Code: function 64 -/
/-! ### remitterref08_XML: function 65 -/
/-! ### remitterref08_Check: function 28 -/
/-! ### remitterref08_digit: function 105 -/
end Go.Proofs.YtknfpggiigncpaaGreatDoor.B
end
section
namespace Go.Proofs.YtknfpggiigncpaaGreatDoor.B
open P
open Go.RowKit YtknfpggiigncpaaGreatDoorW.PrintWords YtknfpggiigncpaaGreatDoorW.PrintLast YtknfpggiigncpaaGreatDoorW.PrintMore
attribute [local go_sem] max2_int min2_int max_two min_two max_three min_three max_four min_four
/-! ### remitterref08_inside: function 70 -/
/-! ### remitterref08_Put: function 71 -/
end Go.Proofs.YtknfpggiigncpaaGreatDoor.B
end
section
namespace Go.Proofs.YtknfpggiigncpaaGreatDoor.B
open P
open Go.RowKit YtknfpggiigncpaaGreatDoorW.PrintWords YtknfpggiigncpaaGreatDoorW.PrintLast YtknfpggiigncpaaGreatDoorW.PrintMore
attribute [local go_sem] max2_int min2_int max_two min_two max_three min_three max_four min_four
/-! ### remitterref08_Unescape: function 30 -/
/-! ### remitterref08_Escape: function 32 -/
def remitterref08_Escape.l0 : Nat → ByteArray → ByteArray → Int → Option (ByteArray)
 | 0, _, _, _ => none
 | k + 1, x0, x3, x4 => if x4 < (x0.size : Int) then (if 0 ≤ x4 then (if (bt x0 x4) = 38 then (if x3.size + 5 ≤ 9223372036854775807 then (remitterref08_Escape.l0 k x0 (x3 ++ (⟨#[38, 97, 109, 112, 59]⟩ : ByteArray)) (wrap64 (x4 + 1))) else (none)) else (if (bt x0 x4) = 60 then (if x3.size + 4 ≤ 9223372036854775807 then (remitterref08_Escape.l0 k x0 (x3 ++ (⟨#[38, 108, 116, 59]⟩ : ByteArray)) (wrap64 (x4 + 1))) else (none)) else (if (bt x0 x4) = 62 then (if x3.size + 4 ≤ 9223372036854775807 then (remitterref08_Escape.l0 k x0 (x3 ++ (⟨#[38, 103, 116, 59]⟩ : ByteArray)) (wrap64 (x4 + 1))) else (none)) else (if (bt x0 x4) = 34 then (if x3.size + 6 ≤ 9223372036854775807 then (remitterref08_Escape.l0 k x0 (x3 ++ (⟨#[38, 113, 117, 111, 116, 59]⟩ : ByteArray)) (wrap64 (x4 + 1))) else (none)) else (if (bt x0 x4) = 39 then (if x3.size + 6 ≤ 9223372036854775807 then (remitterref08_Escape.l0 k x0 (x3 ++ (⟨#[38, 97, 112, 111, 115, 59]⟩ : ByteArray)) (wrap64 (x4 + 1))) else (none)) else (if (bt x0 x4) = 9 then (if x3.size + 5 ≤ 9223372036854775807 then (remitterref08_Escape.l0 k x0 (x3 ++ (⟨#[38, 35, 120, 57, 59]⟩ : ByteArray)) (wrap64 (x4 + 1))) else (none)) else (if (bt x0 x4) = 10 then (if x3.size + 5 ≤ 9223372036854775807 then (remitterref08_Escape.l0 k x0 (x3 ++ (⟨#[38, 35, 120, 65, 59]⟩ : ByteArray)) (wrap64 (x4 + 1))) else (none)) else (if (bt x0 x4) = 13 then (if x3.size + 5 ≤ 9223372036854775807 then (remitterref08_Escape.l0 k x0 (x3 ++ (⟨#[38, 35, 120, 68, 59]⟩ : ByteArray)) (wrap64 (x4 + 1))) else (none)) else (if x4 ≤ (wrap64 (x4 + 1)) then (if (wrap64 (x4 + 1)) ≤ (x0.size : Int) then (if x3.size + (x0.extract (x4 : Int).toNat ((wrap64 (x4 + 1)) : Int).toNat).size ≤ 9223372036854775807 then (remitterref08_Escape.l0 k x0 (x3 ++ (x0.extract (x4 : Int).toNat ((wrap64 (x4 + 1)) : Int).toNat)) (wrap64 (x4 + 1))) else (none)) else (none)) else (none)))))))))) else (none)) else (some x3)
end Go.Proofs.YtknfpggiigncpaaGreatDoor.B
end
section
namespace Go.Proofs.YtknfpggiigncpaaGreatDoor.B
open P
open Go.RowKit YtknfpggiigncpaaGreatDoorW.PrintWords YtknfpggiigncpaaGreatDoorW.PrintLast YtknfpggiigncpaaGreatDoorW.PrintMore
attribute [local go_sem] max2_int min2_int max_two min_two max_three min_three max_four min_four
/-! ### remitterref08_Blank: function 34 -/
/-! ### remitterlaw08_TextTells: function 6 -/
end Go.Proofs.YtknfpggiigncpaaGreatDoor.B
end
section
namespace Go.Proofs.YtknfpggiigncpaaGreatDoor.E
open P B Go.RowKit YtknfpggiigncpaaGreatDoorW.PrintWords YtknfpggiigncpaaGreatDoorW.PrintLast YtknfpggiigncpaaGreatDoorW.PrintMore
attribute [local go_sem] max2_int min2_int max_two min_two max_three min_three max_four min_four
/-! ### remitterref10_Twin: function 15 -/
/-! ### remitterref11_good: function 42 -/
/-! ### remitterref11_attribute: function 77 -/
end Go.Proofs.YtknfpggiigncpaaGreatDoor.E
end
section
namespace Go.Proofs.YtknfpggiigncpaaGreatDoor.E
open Go.RowKit YtknfpggiigncpaaGreatDoorW.PrintWords YtknfpggiigncpaaGreatDoorW.PrintLast YtknfpggiigncpaaGreatDoorW.PrintMore
attribute [local go_sem] max2_int min2_int max_two min_two max_three min_three max_four min_four
/-! ### remitterref11_name: function 78 -/
end Go.Proofs.YtknfpggiigncpaaGreatDoor.E
end
section
namespace Go.Proofs.YtknfpggiigncpaaGreatDoor.E
open P B Go.RowKit YtknfpggiigncpaaGreatDoorW.PrintWords YtknfpggiigncpaaGreatDoorW.PrintLast YtknfpggiigncpaaGreatDoorW.PrintMore
attribute [local go_sem] max2_int min2_int max_two min_two max_three min_three max_four min_four
/-! ### remitterref11_shape: function 44 -/
end Go.Proofs.YtknfpggiigncpaaGreatDoor.E
end
section
namespace Go.Proofs.YtknfpggiigncpaaGreatDoor.E
open P B Go.RowKit YtknfpggiigncpaaGreatDoorW.PrintWords YtknfpggiigncpaaGreatDoorW.PrintLast YtknfpggiigncpaaGreatDoorW.PrintMore
attribute [local go_sem] max2_int min2_int max_two min_two max_three min_three max_four min_four
/-! ### remitterref11_count: function 45 -/
/-! ### remitterref11_May: function 17 -/
/-! ### remitterref11_element: function 43 -/
/-! ### remitterref11_Write: function 16 -/
end Go.Proofs.YtknfpggiigncpaaGreatDoor.E
end
section
namespace Go.Proofs.YtknfpggiigncpaaGreatDoor.B
open Go.RowKit P YtknfpggiigncpaaGreatDoorW.PrintWords
def Ev {α : Type} (f : Nat → Option α) (r : α) : Prop := ∃ K, ∀ k, K ≤ k → f k = some r
theorem ba_ext {a b : ByteArray} (h : a.data.toList = b.data.toList) : a = b := ByteArray.ext (Array.toList_inj.1 h)
theorem ba_app (a b : ByteArray) : (a ++ b).data.toList = a.data.toList ++ b.data.toList := by simp
theorem drop_at (s : ByteArray) (i : Nat) (h : i < s.size) : s.data.toList.drop i = s[i] :: s.data.toList.drop (i + 1) := by
 have hl : i < s.data.toList.length := by simpa using h
 rw [List.drop_eq_getElem_cons hl]
 rfl
theorem bt_of (s : ByteArray) (i : Nat) (h : i < s.size) : bt s (i : Int) = (s[i].toNat : Int) := by
 unfold bt
 rw [dif_pos (by simpa using h)]
 rfl
theorem w_succ (i : Nat) (h : i < 4611686018427387904) : wrap64 ((i : Int) + 1) = ((i + 1 : Nat) : Int) := by unfold wrap64; omega
theorem toL (s : ByteArray) : s.toList = s.data.toList := by
 exact Lib.toList_data s
theorem ext_list (s : ByteArray) (i j : Nat) : (s.extract i j).data.toList = (s.data.toList.drop i).take (j - i) := by
 rw [ByteArray.data_extract, Array.toList_extract]
theorem sz_list (s : ByteArray) : s.size = s.data.toList.length := by simp
/-! The reference's size of a character. -/
/-! The reference's characters. -/
/-! The reference's code of a piece. -/
/-! References. -/
/-! The reference's Unescape. -/
theorem escape_f (s : ByteArray) (h : s.size * 6 ≤ 140737488355328) : text_Escape.f s = some ⟨(escL s.data.toList).toArray⟩ := by
 unfold text_Escape.f
 rw [if_pos h]
end Go.Proofs.YtknfpggiigncpaaGreatDoor.B
end
section
namespace Go.Proofs.YtknfpggiigncpaaGreatDoor.E
open Go.RowKit P B
open YtknfpggiigncpaaGreatDoorW.PrintWords
def sized (v : S24) : Prop := v.f0.size ≤ 5000 ∧ v.f1.size ≤ 5000 ∧ v.f2.length ≤ 1000000
def smallT : Nat → S24 → Prop
 | 0, v => sized v
 | d + 1, v => sized v ∧ ∀ k ∈ v.f2, smallT d k
theorem smallT.top : ∀ {d : Nat} {v : S24}, smallT d v → sized v
 | 0, _, h => h
 | _ + 1, _, h => h.1
theorem rd_get (l : List S24) (i : Nat) (h : i < l.length) : rd_T24 l (i : Int) = l[i] := by
 unfold rd_T24
 rw [Int.toNat_natCast, List.getD_eq_getElem?_getD, List.getElem?_eq_getElem h]
 rfl
theorem take_succ_at (l : List S24) (i : Nat) (h : i < l.length) : l.take (i + 1) = l.take i ++ [l[i]] := by
 rw [List.take_add_one, List.getElem?_eq_getElem h]
 rfl
end Go.Proofs.YtknfpggiigncpaaGreatDoor.E
end
