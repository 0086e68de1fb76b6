/- A tree's parts, as the program goes through them: plain. -/
import Derived.Test.YtknfpggiigncpaaGreatDoorOt4
set_option linter.unusedVariables false
set_option linter.unusedSimpArgs false
namespace Go.Proofs.YtknfpggiigncpaaGreatDoor.E
open Go.RowKit Go.Proofs.YtknfpggiigncpaaGreatDoor.P Go.Proofs.YtknfpggiigncpaaGreatDoor.B
open Go.Proofs.YtknfpggiigncpaaGreatDoorW.PrintWords hiding Ev

/-- The parts of a tree, and how deep they are. -/
def partsT : Nat → Nat → S24 → List (Nat × S24)
  | 0, d, v => [(d, v)]
  | e + 1, d, v => (d, v) :: v.f2.flatMap (partsT e (d + 1))
def partB (x : Nat × S24) : Bool := attrB x.2 || (decide (x.1 ≤ 64) && oneT x.2)
theorem parts_all : ∀ (e d : Nat) (v : S24), e + d = 65 → (partsT e d v).all partB = allN e v
  | 0, d, v, h => by
    simp only [partsT, allN, partB, List.all_cons, List.all_nil]
    rw [decide_eq_false (by omega)]
    simp
  | e + 1, d, v, h => by
    simp only [partsT, allN, partB, List.all_cons, List.all_flatMap]
    rw [decide_eq_true (by omega), Bool.true_and]
    congr 1
    refine List.all_congr rfl fun k => ?_
    exact parts_all e (d + 1) k (by omega)
theorem flat_len : ∀ (l : List S24) (f : S24 → List (Nat × S24)), (∀ k ∈ l, (f k).length ≤ 1 + cntL k.f2) → (l.flatMap f).length ≤ cntL l
  | [], f, _ => by simp [cntL]
  | ⟨a, b, q⟩ :: l, f, h => by
    have h1 := h ⟨a, b, q⟩ List.mem_cons_self
    have h2 := flat_len l f (fun k hk => h k (List.mem_cons_of_mem _ hk))
    simp only [List.flatMap_cons, List.length_append, cntL] at *
    omega
theorem partsT_len : ∀ (e d : Nat) (v : S24), (partsT e d v).length ≤ 1 + cntL v.f2
  | 0, d, v => by simp [partsT]
  | e + 1, d, v => by
    have := flat_len v.f2 (partsT e (d + 1)) (fun k _ => partsT_len e (d + 1) k)
    simp only [partsT, List.length_cons]
    omega
theorem may_parts (v : S24) : mayP v = (!attrB v && (partsT 64 1 v).all partB) := by
  rw [parts_all 64 1 v rfl]
  rfl
end Go.Proofs.YtknfpggiigncpaaGreatDoor.E
