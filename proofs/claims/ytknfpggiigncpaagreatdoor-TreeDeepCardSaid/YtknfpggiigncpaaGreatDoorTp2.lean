/- Colons of a name, in plain Lean: the program's split and the document's count tell the same. -/
import Derived.Test.YtknfpggiigncpaaGreatDoorTr5
set_option linter.unusedVariables false
set_option linter.unusedSimpArgs false
namespace Go.Proofs.YtknfpggiigncpaaGreatDoor.T
open Go.RowKit Go.Proofs.YtknfpggiigncpaaGreatDoor.P Go.Proofs.YtknfpggiigncpaaGreatDoor.E

/-- How many colons, and where the first one is (-1: none). -/
def colN (l : List UInt8) : Nat := l.count 58
def colA (l : List UInt8) : Int := if l.count 58 = 0 then -1 else ((l.takeWhile (fun c => c != 58)).length : Int)
theorem tw_app (a b : List UInt8) (ha : 58 ∉ a) : (a ++ 58 :: b).takeWhile (fun c => c != 58) = a := by
  induction a with
  | nil => rfl
  | cons x a ih =>
    have hx : x ≠ 58 := fun e => ha (by rw [e]; exact List.mem_cons_self ..)
    rw [List.cons_append, List.takeWhile_cons_of_pos (by simpa using hx), ih (fun h => ha (List.mem_cons_of_mem _ h))]
theorem split_at (l : List UInt8) (h : l.count 58 ≠ 0) : ∃ a b, l = a ++ 58 :: b ∧ 58 ∉ a := by
  induction l with
  | nil => exact absurd rfl h
  | cons x l ih =>
    by_cases hx : x = 58
    · exact ⟨[], l, by rw [hx]; rfl, by simp⟩
    · rw [List.count_cons_of_ne (fun e => hx e)] at h
      obtain ⟨a, b, e, ha⟩ := ih h
      exact ⟨x :: a, b, by rw [e]; rfl, by simp only [List.mem_cons, not_or]; exact ⟨fun e => hx e.symm, ha⟩⟩
theorem index_one : ∀ l : List UInt8, Lib.index l [58] = Lib.indexByte l 58
  | [] => rfl
  | x :: l => by
    rw [Lib.index, Lib.indexByte, index_one l]
    have : ([58] : List UInt8).isPrefixOf (x :: l) = (x == 58) := by
      simp only [List.isPrefixOf, Bool.and_true]
      rw [Bool.eq_iff_iff]
      simp only [beq_iff_eq]
      exact eq_comm
    rw [this]
theorem ib_none (l : List UInt8) (h : 58 ∉ l) : Lib.indexByte l 58 = -1 := by
  induction l with
  | nil => rfl
  | cons x l ih =>
    rw [Lib.indexByte, ih (fun e => h (List.mem_cons_of_mem _ e)), if_neg (by simp; exact fun e => h (by rw [e]; exact List.mem_cons_self ..))]
    rfl
theorem ib_some (a b : List UInt8) (h : 58 ∉ a) : Lib.indexByte (a ++ 58 :: b) 58 = (a.length : Int) := by
  induction a with
  | nil => rfl
  | cons x a ih =>
    rw [List.cons_append, Lib.indexByte, ih (fun e => h (List.mem_cons_of_mem _ e)), if_neg (by simp; exact fun e => h (by rw [e]; exact List.mem_cons_self ..)), if_neg (by simp)]
    simp
theorem cut_none (l : List UInt8) (h : 58 ∉ l) : Lib.cut l [58] = (l, [], false) := by
  unfold Lib.cut
  rw [index_one, ib_none l h]
  rfl
theorem cut_some (a b : List UInt8) (h : 58 ∉ a) : Lib.cut (a ++ 58 :: b) [58] = (a, b, true) := by
  unfold Lib.cut
  rw [index_one, ib_some a b h, if_pos (by omega)]
  simp [List.drop_append]
theorem has_ib (l : List UInt8) : decide (0 ≤ Lib.indexByte l 58) = decide (l.count 58 ≠ 0) := by
  by_cases h : l.count 58 = 0
  · rw [ib_none l (List.count_eq_zero.1 h), h]
    rfl
  · obtain ⟨a, b, e, ha⟩ := split_at l h
    rw [decide_eq_true h, e, ib_some a b ha]
    simp
theorem splitT_none (l : List UInt8) (h : colN l = 0) : D.splitT l = ([], l, true) := by
  unfold D.splitT
  rw [cut_none l (List.count_eq_zero.1 h)]
  rfl
theorem splitT_some (a b : List UInt8) (h : 58 ∉ a) : D.splitT (a ++ 58 :: b) = (a, b, !a.isEmpty && !b.isEmpty && decide (colN b = 0)) := by
  unfold D.splitT
  rw [cut_some a b h]
  simp only [if_true]
  rw [has_ib b]
  unfold colN
  by_cases hb : b.count 58 = 0 <;> simp [hb]
theorem colN_some (a b : List UInt8) (h : 58 ∉ a) : colN (a ++ 58 :: b) = 1 + colN b := by
  unfold colN
  rw [List.count_append, List.count_eq_zero.2 h, List.count_cons_self]
  omega
theorem colA_some (a b : List UInt8) (h : 58 ∉ a) : colA (a ++ 58 :: b) = (a.length : Int) := by
  unfold colA
  rw [if_neg, tw_app a b h]
  have := colN_some a b h
  unfold colN at this
  omega
theorem col_cases (l : List UInt8) : (colN l = 0 ∧ colA l = -1 ∧ D.splitT l = ([], l, true)) ∨ ∃ a b, l = a ++ 58 :: b ∧ 58 ∉ a ∧ colN l = 1 + colN b ∧ colA l = (a.length : Int) ∧ D.splitT l = (a, b, !a.isEmpty && !b.isEmpty && decide (colN b = 0)) := by
  by_cases h : l.count 58 = 0
  · exact .inl ⟨h, by unfold colA; rw [if_pos h], splitT_none l h⟩
  · obtain ⟨a, b, e, ha⟩ := split_at l h
    exact .inr ⟨a, b, e, ha, by rw [e]; exact colN_some a b ha, by rw [e]; exact colA_some a b ha, by rw [e]; exact splitT_some a b ha⟩
end Go.Proofs.YtknfpggiigncpaaGreatDoor.T
