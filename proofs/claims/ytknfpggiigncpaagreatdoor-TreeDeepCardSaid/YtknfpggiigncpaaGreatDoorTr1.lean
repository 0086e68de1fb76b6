/- tree.split, walked by hand. -/
import Derived.Test.YtknfpggiigncpaaGreatDoorGlob
import Derived.Test.YtknfpggiigncpaaGreatDoorShelf
import Derived.WalkKit
import Derived.Lib.Hide
import Derived.Test.YtknfpggiigncpaaGreatDoorXTok10
section
set_option linter.unusedVariables false
set_option linter.unusedSimpArgs false
namespace Go.Proofs.YtknfpggiigncpaaGreatDoor.P
open Go.RowKit

theorem dropWhile_nil {α : Type} (p : α → Bool) (l : List α) : l.dropWhile p = [] ↔ l.all p = true := by
  induction l with
  | nil => simp
  | cons a l ih =>
    by_cases h : p a = true
    · simp [h, ih]
    · simp [h]
theorem trimS_nil (l cs : List UInt8) : Lib.trimS l cs = [] ↔ l.all (cs.contains ·) = true := by
  unfold Lib.trimS Lib.trimLeftS Lib.trimRightS
  rw [dropWhile_nil]
  constructor
  · intro h
    rw [List.all_eq_true] at h ⊢
    intro x hx
    have key : ∀ m : List UInt8, (∀ y ∈ m.dropWhile (cs.contains ·), cs.contains y = true) → ∀ y ∈ m, cs.contains y = true := by
      intro m
      induction m with
      | nil => intro _ y hy; cases hy
      | cons a m ih =>
        intro h y hy
        by_cases ha : cs.contains a = true
        · rw [List.dropWhile_cons_of_pos ha] at h
          rcases List.mem_cons.1 hy with rfl | hy
          · exact ha
          · exact ih h y hy
        · rw [List.dropWhile_cons_of_neg ha] at h
          exact h y hy
    exact key l.reverse (fun y hy => h y (by simpa using hy)) x (by simpa using hx)
  · intro h
    rw [List.all_eq_true] at h ⊢
    intro x hx
    have : x ∈ l.reverse.dropWhile (cs.contains ·) := by simpa using hx
    exact h x (by simpa using (List.dropWhile_sublist _).subset this)
theorem blank_set (b : UInt8) : ([32, 9, 10, 13] : List UInt8).contains b = blankB b := by
  rw [Bool.eq_iff_iff]
  simp [blankB, or_assoc]

theorem text_Blank.calls (a0 : ByteArray) (r : Bool) (w : World) (h : text_Blank.f a0 = some r) (_hG : Glob w) :
    Calls Tryz.prog 33 #[.string a0] w fun e w' => e = .returned (.bool r) ∧ Below w.heap.size w w' := by
  unfold text_Blank.f at h
  by_cases hm' : a0.size ≤ 140737488355328
  case neg => rw [if_neg hm'] at h; cases h
  rw [if_pos hm'] at h
  obtain rfl := Option.some.inj h
  clear h
  have hcon := Any.strings_Trim_laid Tryz.lays160 (by kernel_rfl) a0 ⟨#[32, 9, 10, 13]⟩ w (by omega) (by decide) (ascii_of_all (by decide))
  change Calls Tryz.prog 74 _ _ _ at hcon
  have e1 : (⟨#[32, 9, 10, 13]⟩ : ByteArray).data.toList = [32, 9, 10, 13] := rfl
  rw [e1] at hcon
  clear e1
  have hx : (a0.data.toList.all blankB) = decide (Lib.trimS a0.data.toList [32, 9, 10, 13] = []) := by
    rw [Bool.eq_iff_iff, decide_eq_true_eq, trimS_nil]
    simp only [blank_set]
  rw [hx]
  clear hx
  generalize Lib.trimS a0.data.toList [32, 9, 10, 13] = x at *
  go_enter Tryz.func33, Tryz.ntmps33
  go_wp2_with fail
  refine hcon.mono ?_
  rintro e w1 ⟨rfl, hb⟩
  go_wp2_with fail
  go_ret
  refine ⟨?_, hb⟩
  cases x <;> rfl
end Go.Proofs.YtknfpggiigncpaaGreatDoor.P
end
section
set_option linter.unusedVariables false
set_option linter.unusedSimpArgs false
namespace Go.Proofs.YtknfpggiigncpaaGreatDoor.D
open Go.RowKit Go.Proofs.YtknfpggiigncpaaGreatDoor.P Go.Proofs.YtknfpggiigncpaaGreatDoorW.PrintLast Go.Proofs.YtknfpggiigncpaaGreatDoorW.PrintMore
open Go.Proofs.YtknfpggiigncpaaGreatDoorW.PrintWords

/-- A name's prefix, what stands behind it, and whether it may be. -/
def splitT (l : List UInt8) : List UInt8 × List UInt8 × Bool :=
  if (Lib.cut l [58]).2.2 = true then ((Lib.cut l [58]).1, (Lib.cut l [58]).2.1, !(Lib.cut l [58]).1.isEmpty && !(Lib.cut l [58]).2.1.isEmpty && !decide (0 ≤ Lib.indexByte (Lib.cut l [58]).2.1 58)) else ([], l, true)
set_option maxHeartbeats 4000000 in
set_option maxRecDepth 100000 in
theorem split_any (s : ByteArray) (w : World) (hs : s.size < 4294967281) (hG : Glob w) :
    Calls Tryz.prog 145 #[.string s] w fun e w' => e = .returned (.tuple #[.string ⟨(splitT s.data.toList).1.toArray⟩, .string ⟨(splitT s.data.toList).2.1.toArray⟩, .bool (splitT s.data.toList).2.2]) ∧ Below w.heap.size w w' := by
  obtain ⟨m, hm⟩ := hG.maxLen
  have HC := Lib.hid (Tryz.strings_Cut s ⟨#[58]⟩ m w hs hm)
  have hp : (⟨#[58]⟩ : ByteArray).data.toList = [58] := rfl
  rw [hp] at HC
  obtain ⟨R, hR⟩ : ∃ R, splitT s.data.toList = R := ⟨_, rfl⟩
  unfold splitT at hR
  obtain ⟨C, hC⟩ : ∃ C, Lib.cut s.data.toList [58] = C := ⟨_, rfl⟩
  rw [hC] at HC hR
  obtain ⟨c0, c1, c2⟩ := C
  have HR := Lib.hid hR
  show Calls _ _ _ _ fun e w' => e = .returned (.tuple #[.string ⟨(splitT s.data.toList).1.toArray⟩, .string ⟨(splitT s.data.toList).2.1.toArray⟩, .bool (splitT s.data.toList).2.2]) ∧ Below w.heap.size w w'
  rw [show splitT s.data.toList = R from by unfold splitT; rw [hC]; exact hR]
  clear hR hC hm
  go_enter Tryz.func145, Tryz.ntmps145
  go_wp2_with fail
  refine HC.out.mono ?_
  rintro e w1 ⟨rfl, n, rfl⟩
  cases c2 with
  | false =>
    go_wp2_with fail
    go_ret3
    have : R = ([], s.data.toList, true) := by rw [← HR.out]; rfl
    rw [this]
    exact ⟨rfl, pw_below_drewN (Below.refl _ _) n⟩
  | true =>
    have hRv : R = (c0, c1, !c0.isEmpty && !c1.isEmpty && !decide (0 ≤ Lib.indexByte c1 58)) := by rw [← HR.out]; rfl
    by_cases h0 : c0 = []
    · subst h0
      go_wp2_with fail
      go_ret3
      rw [hRv]
      exact ⟨by simp, pw_below_drewN (Below.refl _ _) n⟩
    · by_cases h1 : c1 = []
      · subst h1
        go_wp2_with fail
        go_ret3
        rw [hRv]
        exact ⟨by simp, pw_below_drewN (Below.refl _ _) n⟩
      · go_wp2_with fail
        refine (Tryz.strings_Contains_one ⟨c1.toArray⟩ 58 _).mono ?_
        rintro e w2 ⟨rfl, rfl⟩
        go_wp2_with fail
        go_ret3
        rw [hRv]
        exact ⟨by simp, pw_below_drewN (Below.refl _ _) n⟩
end Go.Proofs.YtknfpggiigncpaaGreatDoor.D
end
