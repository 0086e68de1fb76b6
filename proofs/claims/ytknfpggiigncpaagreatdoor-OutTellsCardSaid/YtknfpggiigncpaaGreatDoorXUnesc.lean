/- text.Unescape: its contract. -/
import Derived.Test.YtknfpggiigncpaaGreatDoorAx0
import Derived.Test.YtknfpggiigncpaaGreatDoorAx1
import Derived.Test.YtknfpggiigncpaaGreatDoorShelf
import Derived.WalkKit
import Derived.Lib.ConvBytes
import Derived.Lib.Hide
import Derived.LoopTactic
import Derived.Test.YtknfpggiigncpaaGreatDoorXCheck
import Derived.LoopN
import Derived.Deep.QuietTactic
import Derived.BigQuiet
import Derived.Laws.EntriesVeiled
import Derived.Lib.IndexMore
import Derived.Lib.Bytealg
section
set_option linter.unusedVariables false
set_option linter.unusedSimpArgs false
namespace Go.Proofs.YtknfpggiigncpaaGreatDoor.P
open Go.RowKit Go.Proofs.YtknfpggiigncpaaGreatDoorW.PrintWords

theorem kb (s : ByteArray) (w : World) : (convert 9 63 (.string s)).run Tryz.prog w = .ok (.slice (some ⟨w.heap.size, 0, none⟩) s.size (grownCap w s.size 0 5)) (Lib.bytesWorld w 5 s) := Lib.run_convert_string_bytes w 9 63 5 s Tryz.underlying9 Tryz.underlying63 Tryz.underlying5

end Go.Proofs.YtknfpggiigncpaaGreatDoor.P
end
section
set_option linter.unusedVariables false
set_option linter.unusedSimpArgs false
namespace Go.Proofs.YtknfpggiigncpaaGreatDoor.P
open Go.RowKit Go.Proofs.YtknfpggiigncpaaGreatDoorW.PrintWords

/-- What a reference's inside is: a character, or none. -/
def RefOut (o : Option Nat) (e : Ending) : Prop := match o with
  | some c => e = .returned (.tuple #[.int .i32 c, .bool true])
  | none => ∃ r : Int, e = .returned (.tuple #[.int .i32 r, .bool false])
theorem RefOut.form {o : Option Nat} {e : Ending} (h : RefOut o e) : ∃ (r : Int) (b : Bool), e = .returned (.tuple #[.int .i32 r, .bool b]) ∧ RefOut o (.returned (.tuple #[.int .i32 r, .bool b])) := by
  cases o with
  | none => obtain ⟨r, rfl⟩ := h; exact ⟨r, false, rfl, r, rfl⟩
  | some c => obtain rfl : e = _ := h; exact ⟨c, true, rfl, rfl⟩
end Go.Proofs.YtknfpggiigncpaaGreatDoor.P
end
section
set_option linter.unusedVariables false
set_option linter.unusedSimpArgs false
namespace Go.Proofs.YtknfpggiigncpaaGreatDoor.P
open Go.RowKit Go.Proofs.YtknfpggiigncpaaGreatDoorW.PrintWords

theorem ownsRowF_below {W W' : World} {B e size n : Nat} {v : Value} {xs : List Value} (h : W.ownsRowF B e size v n xs) (hb : Below W.heap.size W W') : W'.ownsRowF B e size v n xs :=
  h.kept (grown_of_below hb none) (by cases v.ownBlock <;> simp)
theorem builder_below {W W' : World} {T e B b : Nat} {bs : List Value} (h : Lib.IsBuilderF T e B b bs W) (hb : Below W.heap.size W W') : Lib.IsBuilderF T e B b bs W' := by
  have key : ∀ p, Lib.BuilderAtF T e B b p bs W → Lib.BuilderAtF T e B b p bs W' := by
    rintro p ⟨h1, v, h2, h3, h4⟩
    exact ⟨h1, v, (hb.block b (Array.getElem?_eq_some_iff.1 h2).1).trans h2, ownsRowF_below h3 hb, h4⟩
  exact h.elim (fun h => .inl (key _ h)) (fun h => .inr (key _ h))
theorem builder_add {T e B b : Nat} {p : Value} {out : List UInt8} {s : ByteArray} {l : List UInt8} {W : World} (h : Lib.BuilderAtF T e B b p (Lib.byteCells out ++ Lib.strCells s) W) (hs : s.data.toList = l) : Lib.BuilderAtF T e B b p (Lib.byteCells (out ++ l)) W := by
  rw [Lib.byteCells_append, ← hs]
  exact h
end Go.Proofs.YtknfpggiigncpaaGreatDoor.P
end
