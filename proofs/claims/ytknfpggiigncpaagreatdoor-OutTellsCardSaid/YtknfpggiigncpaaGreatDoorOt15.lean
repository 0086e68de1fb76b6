/- An element's form, attributes first: plain; and a put into a Builder. -/
import Derived.Test.YtknfpggiigncpaaGreatDoorOt8
import Derived.Test.YtknfpggiigncpaaGreatDoorOt12
import Derived.Test.YtknfpggiigncpaaGreatDoorXUnesc
import Derived.Test.YtknfpggiigncpaaGreatDoorXOnce
set_option linter.unusedVariables false
set_option linter.unusedSimpArgs false
namespace Go.Proofs.YtknfpggiigncpaaGreatDoor.E
open Go.RowKit Go.Proofs.YtknfpggiigncpaaGreatDoor.P Go.Proofs.YtknfpggiigncpaaGreatDoor.B
open Go.Proofs.YtknfpggiigncpaaGreatDoorW.PrintWords hiding Ev

theorem attsL_append : ∀ (a b : List S24), attsL (a ++ b) = attsL a ++ attsL b
  | [], b => rfl
  | x :: a, b => by
    rw [List.cons_append, attsL, attsL, attsL_append a b, List.append_assoc]
theorem innerL_append : ∀ (a b : List S24), innerL (a ++ b) = innerL a ++ innerL b
  | [], b => by simp [innerL]
  | ⟨x, y, z⟩ :: a, b => by
    rw [List.cons_append, innerL, innerL, innerL_append a b, List.append_assoc]
theorem attsL_none (l : List S24) (h : l.any attrB = false) : attsL l = [] := by
  induction l with
  | nil => rfl
  | cons x l ih =>
    rw [List.any_cons, Bool.or_eq_false_iff] at h
    rw [attsL, if_neg (by rw [h.1]; simp), ih h.2]
    rfl
theorem innerL_none (l : List S24) (h : ∀ k ∈ l, attrB k = true) : innerL l = [] := by
  induction l with
  | nil => simp [innerL]
  | cons x l ih =>
    obtain ⟨a, b, c⟩ := x
    rw [innerL, if_pos (h _ List.mem_cons_self), ih (fun k hk => h k (List.mem_cons_of_mem _ hk))]
    rfl
theorem innerL_one (x : S24) (h : attrB x = false) : innerL [x] = elemL x [] := by
  obtain ⟨a, b, c⟩ := x
  rw [innerL, if_neg (by rw [h]; simp), innerL, List.append_nil]
  rfl
theorem att_mem (l : List S24) : ∀ k ∈ l.take (attN l), attrB k = true := by
  intro k hk
  rw [take_att] at hk
  exact tw_all l k hk
/-- What an element may be, as the program asks it: attributes first. -/
theorem one_parts (v : S24) (h : oneT v = true) : attsL v.f2 = attsL (v.f2.take (attN v.f2)) ∧ innerL v.f2 = innerL (v.f2.drop (attN v.f2)) ∧ (∀ k ∈ v.f2.drop (attN v.f2), attrB k = false) := by
  have hn : (v.f2.drop (attN v.f2)).any attrB = false := by
    unfold oneT at h
    simp only [Bool.and_eq_true, Bool.not_eq_true'] at h
    exact h.1.2
  refine ⟨?_, ?_, ?_⟩
  · conv => lhs; rw [← List.take_append_drop (attN v.f2) v.f2]
    rw [attsL_append, attsL_none _ hn, List.append_nil]
  · conv => lhs; rw [← List.take_append_drop (attN v.f2) v.f2]
    rw [innerL_append, innerL_none _ (att_mem v.f2), List.nil_append]
  · intro k hk
    cases hb : attrB k with
    | false => rfl
    | true => rw [List.any_eq_true.2 ⟨k, hk, hb⟩] at hn; cases hn
/-- A space's part of a tag. -/
def spOf (sp : ByteArray) : List UInt8 := if sp.size = 0 then [] else spaceL sp.data.toList
/-- A put: the Builder's bytes grow. -/
theorem put_calls (B b : Nat) (out : List UInt8) (s : ByteArray) (w : World) (h : Lib.IsBuilderF 65 5 B b (Lib.byteCells out) w) (hlen : out.length + s.size ≤ 140737488355328) (hBw : B ≤ w.heap.size) :
    Calls Tryz.prog 47 #[.pointer (some ⟨b, 0, none⟩), .string s] w fun e w' => e = .returned (.tuple #[.int .i64 s.size, .nilIface]) ∧ Lib.IsBuilderF 65 5 B b (Lib.byteCells (out ++ s.data.toList)) w' ∧ Below B w w' ∧ Lib.OthersKept 5 (some b) w w' := by
  refine (Tryz.Builder_WriteString_k B b _ s w h (by simp [Lib.byteCells]; omega) hBw).mono ?_
  rintro e w2 ⟨rfl, h2, h3, h4⟩
  exact ⟨rfl, .inr (builder_add h2 rfl), h3, h4⟩
theorem esc_calls (s : ByteArray) (w : World) (hs : s.size ≤ 5000) (hG : Glob w) : Calls Tryz.prog 31 #[.string s] w fun e w' => e = .returned (.string ⟨(escL s.data.toList).toArray⟩) ∧ Below w.heap.size w w' :=
  text_Escape.calls s _ w (escape_f s (by omega)) hG
end Go.Proofs.YtknfpggiigncpaaGreatDoor.E
