/- What is escaped comes back: the plain law. -/
import Derived.Test.YtknfpggiigncpaaGreatDoorProg
import Derived.Below
import Derived.Deep.Draws
import Derived.Deep.AppendLies
import Derived.Maps.AppendAt
import Derived.OwnWalk
import Derived.Laws.BytesArg
import Derived.Laws.MakeOwn
import Derived.Laws.OwnMore
import Derived.Deep.OwnRows
import Derived.Tactics
import Derived.Lib.ConvBytes
import Derived.Laws.Slices
import Derived.WalkKit
import Derived.KernelRfl
import Derived.RowKit3
import Derived.Deep.LoopGhost
import Derived.Deep.QuietTactic
import Derived.BigQuiet
import Derived.WideLaws
import Derived.Deep.DeepCutAuto
import Derived.Deep.CutBlock
import Derived.Deep.RegionHeld3
import Derived.Laws.Rows
import Derived.Lib.AppendStr
import Derived.ArgAppend
import Derived.Laws.IdiomCopy
import Derived.OrdersHeld
import Derived.Laws.BitsLemmas
import Derived.RowKit
import Derived.Test.YtknfpggiigncpaaGreatDoorWWords
import Derived.Test.YtknfpggiigncpaaGreatDoorWLast
import Derived.Test.YtknfpggiigncpaaGreatDoorWTab
import Derived.Test.YtknfpggiigncpaaGreatDoorWMore
import Derived.Laws.StructEq
import Derived.Test.YtknfpggiigncpaaGreatDoorAx0
import Derived.Test.YtknfpggiigncpaaGreatDoorXCheck
import Derived.Test.YtknfpggiigncpaaGreatDoorXRune
import Derived.Test.YtknfpggiigncpaaGreatDoorXUnesc
import Derived.Test.YtknfpggiigncpaaGreatDoorXOnce
import Derived.Test.YtknfpggiigncpaaGreatDoorOt1
import Derived.Test.YtknfpggiigncpaaGreatDoorUnFns
import Derived.Lib.SmallJoins
set_option linter.unusedVariables false
set_option linter.unusedSimpArgs false
section
namespace Go.Proofs.YtknfpggiigncpaaGreatDoor.P
open Go.RowKit YtknfpggiigncpaaGreatDoorW.PrintWords YtknfpggiigncpaaGreatDoorW.PrintLast YtknfpggiigncpaaGreatDoorW.PrintMore
attribute [local go_sem] max2_int min2_int max_two min_two max_three min_three max_four min_four
end Go.Proofs.YtknfpggiigncpaaGreatDoor.P
end
section
namespace Go.Proofs.YtknfpggiigncpaaGreatDoor.P
open Go.RowKit YtknfpggiigncpaaGreatDoorW.PrintWords YtknfpggiigncpaaGreatDoorW.PrintLast YtknfpggiigncpaaGreatDoorW.PrintMore
attribute [local go_sem] max2_int min2_int max_two min_two max_three min_three max_four min_four
/-! ### remitterlaw08_wakes: function 26 -/
/-! ### remitterlaw08_TextBack: function 7 -/
end Go.Proofs.YtknfpggiigncpaaGreatDoor.P
end
section
namespace Go.Proofs.YtknfpggiigncpaaGreatDoor.P
open Go.RowKit YtknfpggiigncpaaGreatDoorW.PrintWords
theorem un_byte (b : UInt8) (r : List UInt8) (pos : Nat) (out : List UInt8) : un (escByte b ++ r) pos out = un r (pos + (escByte b).length) (out ++ [b]) := by
 by_cases he : escByte b = [b]
 ·
  have hb : b ≠ 38 := fun h => by subst h; exact absurd he (by decide)
  rw [he]
  exact un_plain b r pos out hb
 ·
  have hr : (repOf b).isSome = true := by
   cases hr : repOf b with
   | none => rw [escByte_rep, hr] at he; exact absurd rfl he
   | some n => rfl
  have hm := rep_keys8 b hr
  have key : ∀ b ∈ keys8, ∃ i, escByte b = 38 :: (i ++ [59]) ∧ (∀ c ∈ i, c ≠ 59) ∧ i.length + 1 ≤ 13 ∧ refV i = some b.toNat ∧ Lib.encodeRune (b.toNat : Int) = [b] := by
   intro b hb
   simp only [keys8, List.mem_cons, List.not_mem_nil, or_false] at hb
   rcases hb with rfl | rfl | rfl | rfl | rfl | rfl | rfl | rfl
   ·
    exact ⟨[35, 120, 68], rfl, by decide, by decide, by decide, by decide⟩
   ·
    exact ⟨[35, 120, 65], rfl, by decide, by decide, by decide, by decide⟩
   ·
    exact ⟨[35, 120, 57], rfl, by decide, by decide, by decide, by decide⟩
   ·
    exact ⟨[97, 112, 111, 115], rfl, by decide, by decide, by decide, by decide⟩
   ·
    exact ⟨[113, 117, 111, 116], rfl, by decide, by decide, by decide, by decide⟩
   ·
    exact ⟨[103, 116], rfl, by decide, by decide, by decide, by decide⟩
   ·
    exact ⟨[108, 116], rfl, by decide, by decide, by decide, by decide⟩
   ·
    exact ⟨[97, 109, 112], rfl, by decide, by decide, by decide, by decide⟩
  obtain ⟨i, h1, h2, h3, h4, h5⟩ := key b hm
  have hs : ∀ (i q : List UInt8) (n : Nat), (∀ c ∈ i, c ≠ 59) → i.length + 1 ≤ n → semi ((i ++ 59 :: q).take n) = some i := by
   intro i
   induction i with
   | nil =>
    intro q n _ hn
    obtain ⟨n, rfl⟩ : ∃ m, n = m + 1 := ⟨n - 1, by simp at hn; omega⟩
    simp [semi]
   | cons c i ih =>
    intro q n hc hn
    obtain ⟨n, rfl⟩ : ∃ m, n = m + 1 := ⟨n - 1, by simp at hn; omega⟩
    rw [List.cons_append, List.take_succ_cons]
    simp only [semi]
    rw [if_neg (hc c (by simp)), ih q n (fun x hx => hc x (List.mem_cons_of_mem _ hx)) (by simp at hn; omega)]
    rfl
  rw [h1, List.cons_append, List.append_assoc, List.singleton_append, un_ref _ pos out i b.toNat (hs i r 13 h2 h3) h4, h5]
  congr 1
  ·
   rw [show i ++ 59 :: r = (i ++ [59]) ++ r by simp, show i.length + 1 = (i ++ [59]).length by simp, List.drop_left]
  ·
   simp
   omega
theorem un_escL : ∀ (l r : List UInt8) (pos : Nat) (out : List UInt8), un (escL l ++ r) pos out = un r (pos + (escL l).length) (out ++ l)
 | [], r, pos, out => by simp [escL]
 | b :: l, r, pos, out => by
  rw [escL_cons, List.append_assoc, un_byte, un_escL l r]
  congr 1
  ·
   simp; omega
  ·
   simp
theorem escL_clean : ∀ (l : List UInt8), ∀ c ∈ escL l, c ≠ 60 ∧ c ≠ 62 ∧ c ≠ 34 ∧ c ≠ 39 ∧ c ≠ 9 ∧ c ≠ 10 ∧ c ≠ 13
 | [], c, h => by simp [escL] at h
 | b :: l, c, h => by
  rw [escL_cons, List.mem_append] at h
  rcases h with h | h
  ·
   revert h
   unfold escByte
   repeat' split
   all_goals
    intro h
    simp only [List.mem_cons, List.not_mem_nil, or_false] at h
    first
     | (rcases h with rfl | rfl | rfl | rfl | rfl | rfl <;> decide)
     | (rcases h with rfl | rfl | rfl | rfl | rfl <;> decide)
     | (rcases h with rfl | rfl | rfl | rfl <;> decide)
     | (subst h; refine ⟨?_, ?_, ?_, ?_, ?_, ?_, ?_⟩ <;> assumption)
  ·
   exact escL_clean l c h
theorem escape_f (s : ByteArray) (h : s.size * 6 ≤ 140737488355328) : text_Escape.f s = some ⟨(escL s.data.toList).toArray⟩ := by
 unfold text_Escape.f
 rw [if_pos h]
end Go.Proofs.YtknfpggiigncpaaGreatDoor.P
end
