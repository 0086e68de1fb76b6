/- text.Blank: its contract. -/
import Derived.Test.YtknfpggiigncpaaGreatDoorTextFns
import Derived.Test.YtknfpggiigncpaaGreatDoorGlob
import Derived.Test.YtknfpggiigncpaaGreatDoorShelf
import Derived.WalkKit
import Derived.Lib.Hide
set_option linter.unusedVariables false
set_option linter.unusedSimpArgs false
namespace Go.Proofs.YtknfpggiigncpaaGreatDoor.P
open Go.RowKit

theorem dropWhile_nil {α : Type} (p : α → Bool) (l : List α) : l.dropWhile p = [] ↔ l.all p = true := by
  induction l with
  | nil => simp
  | cons a l ih =>
    by_cases h : p a = true
    · simp [h, ih]
    · simp [h]
theorem trimS_nil (l cs : List UInt8) : Lib.trimS l cs = [] ↔ l.all (cs.contains ·) = true := by
  unfold Lib.trimS Lib.trimLeftS Lib.trimRightS
  rw [dropWhile_nil]
  constructor
  · intro h
    rw [List.all_eq_true] at h ⊢
    intro x hx
    have key : ∀ m : List UInt8, (∀ y ∈ m.dropWhile (cs.contains ·), cs.contains y = true) → ∀ y ∈ m, cs.contains y = true := by
      intro m
      induction m with
      | nil => intro _ y hy; cases hy
      | cons a m ih =>
        intro h y hy
        by_cases ha : cs.contains a = true
        · rw [List.dropWhile_cons_of_pos ha] at h
          rcases List.mem_cons.1 hy with rfl | hy
          · exact ha
          · exact ih h y hy
        · rw [List.dropWhile_cons_of_neg ha] at h
          exact h y hy
    exact key l.reverse (fun y hy => h y (by simpa using hy)) x (by simpa using hx)
  · intro h
    rw [List.all_eq_true] at h ⊢
    intro x hx
    have : x ∈ l.reverse.dropWhile (cs.contains ·) := by simpa using hx
    exact h x (by simpa using (List.dropWhile_sublist _).subset this)
theorem blank_set (b : UInt8) : ([32, 9, 10, 13] : List UInt8).contains b = blankB b := by
  rw [Bool.eq_iff_iff]
  simp [blankB, or_assoc]

theorem text_Blank.calls (a0 : ByteArray) (r : Bool) (w : World) (h : text_Blank.f a0 = some r) (_hG : Glob w) :
    Calls Tryz.prog 33 #[.string a0] w fun e w' => e = .returned (.bool r) ∧ Below w.heap.size w w' := by
  unfold text_Blank.f at h
  by_cases hm' : a0.size ≤ 140737488355328
  case neg => rw [if_neg hm'] at h; cases h
  rw [if_pos hm'] at h
  obtain rfl := Option.some.inj h
  clear h
  have hcon := Any.strings_Trim_laid Tryz.lays160 (by kernel_rfl) a0 ⟨#[32, 9, 10, 13]⟩ w (by omega) (by decide) (ascii_of_all (by decide))
  change Calls Tryz.prog 74 _ _ _ at hcon
  have e1 : (⟨#[32, 9, 10, 13]⟩ : ByteArray).data.toList = [32, 9, 10, 13] := rfl
  rw [e1] at hcon
  clear e1
  have hx : (a0.data.toList.all blankB) = decide (Lib.trimS a0.data.toList [32, 9, 10, 13] = []) := by
    rw [Bool.eq_iff_iff, decide_eq_true_eq, trimS_nil]
    simp only [blank_set]
  rw [hx]
  clear hx
  generalize Lib.trimS a0.data.toList [32, 9, 10, 13] = x at *
  go_enter Tryz.func33, Tryz.ntmps33
  go_wp2_with fail
  refine hcon.mono ?_
  rintro e w1 ⟨rfl, hb⟩
  go_wp2_with fail
  go_ret
  refine ⟨?_, hb⟩
  cases x <;> rfl
end Go.Proofs.YtknfpggiigncpaaGreatDoor.P
