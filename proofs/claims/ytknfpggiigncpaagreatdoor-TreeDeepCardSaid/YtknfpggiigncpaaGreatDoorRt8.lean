/- How long a text's tokens are. -/
import Derived.Test.YtknfpggiigncpaaGreatDoorTb2
set_option linter.unusedVariables false
set_option linter.unusedSimpArgs false
namespace Go.Proofs.YtknfpggiigncpaaGreatDoor.C
open Go.RowKit Go.Proofs.YtknfpggiigncpaaGreatDoor.P Go.Proofs.YtknfpggiigncpaaGreatDoorW.PrintWords

theorem putT_mem {xs : List S44} {t y : S44} (h : y ∈ putT xs t) : y ∈ xs ∨ y = t := by
  unfold putT at h
  split at h
  · exact .inl h
  · simpa using h
theorem start_le {s : ByteArray} {q : Nat} (h : startT s = .ok q) : q ≤ s.size := (start_app (x := []) (S := s) (by simp) (.inl rfl) rfl h).1
end Go.Proofs.YtknfpggiigncpaaGreatDoor.C
