/- token's reader: put: its contract. -/
import Derived.Test.YtknfpggiigncpaaGreatDoorProg
import Derived.Below
import Derived.Deep.Draws
import Derived.Deep.AppendLies
import Derived.Maps.AppendAt
import Derived.OwnWalk
import Derived.Laws.BytesArg
import Derived.Laws.MakeOwn
import Derived.Laws.OwnMore
import Derived.Deep.OwnRows
import Derived.Tactics
import Derived.Lib.ConvBytes
import Derived.Laws.Slices
import Derived.WalkKit
import Derived.KernelRfl
import Derived.RowKit3
import Derived.Deep.LoopGhost
import Derived.Deep.QuietTactic
import Derived.BigQuiet
import Derived.WideLaws
import Derived.Deep.DeepCutAuto
import Derived.Deep.CutBlock
import Derived.Deep.RegionHeld3
import Derived.Laws.Rows
import Derived.Lib.AppendStr
import Derived.ArgAppend
import Derived.Laws.IdiomCopy
import Derived.OrdersHeld
import Derived.Laws.BitsLemmas
import Derived.RowKit
import Derived.Test.YtknfpggiigncpaaGreatDoorWWords
import Derived.Test.YtknfpggiigncpaaGreatDoorWLast
import Derived.Test.YtknfpggiigncpaaGreatDoorWTab
import Derived.Test.YtknfpggiigncpaaGreatDoorWKept
import Derived.Test.YtknfpggiigncpaaGreatDoorWN
import Derived.Laws.StructEq
import Derived.Test.YtknfpggiigncpaaGreatDoorWMore
import Derived.Test.YtknfpggiigncpaaGreatDoorXUnesc
import Derived.Lib.Bytes2
import Derived.Tactics2
import Derived.WalkLawsBesides
import Derived.Deep.RegionLaw
section
-- Written by xprint.py (wip/) for this claim: the kit's print, with functions proved by hand taken as known. Lean checks it.
namespace Go.Proofs.YtknfpggiigncpaaGreatDoor.C
open Go.RowKit Go.Proofs.YtknfpggiigncpaaGreatDoorW.PrintWords Go.Proofs.YtknfpggiigncpaaGreatDoorW.PrintLast Go.Proofs.YtknfpggiigncpaaGreatDoorW.PrintMore
attribute [local go_sem] max2_int min2_int max_two min_two max_three min_three max_four min_four   -- for this text's walks alone
set_option linter.unusedVariables false
set_option linter.unusedSimpArgs false



def errW : Option Int → Value
  | none => .nilIface
  | some c => .iface 0 (.int .i64 c)
theorem errW_none : errW none = .nilIface := rfl
theorem errW_some (c : Int) : errW (some c) = .iface 0 (.int .i64 c) := rfl

-- the values' own types
/-! #### struct type 77 -/
structure S77 where
  f0 : ByteArray
  f1 : ByteArray
def k77 : Kd S77 := Kd.iso (Kd.pair Kd.string Kd.string) (fun x : S77 => (x.f0, x.f1))
/-! #### struct type 44 -/
structure S44 where
  f0 : Int
  f1 : ByteArray
  f2 : ByteArray
  f3 : (List S77)
  f4 : Bool
  f5 : Int
def k44 : Kd S44 := Kd.iso (Kd.pair (Kd.int .u8) (Kd.pair Kd.string (Kd.pair Kd.string (Kd.pair (Kd.slice 77 k77) (Kd.pair Kd.bool (Kd.int .i64)))))) (fun x : S44 => (x.f0, x.f1, x.f2, x.f3, x.f4, x.f5))
/-! #### struct type 92 -/
/-! #### struct type 88 -/
end Go.Proofs.YtknfpggiigncpaaGreatDoor.C
end
section
set_option linter.unusedVariables false
set_option linter.unusedSimpArgs false
namespace Go.Proofs.YtknfpggiigncpaaGreatDoor.C
open Go.RowKit Go.Proofs.YtknfpggiigncpaaGreatDoor.P Go.Proofs.YtknfpggiigncpaaGreatDoor.A Go.Proofs.YtknfpggiigncpaaGreatDoorW.PrintWords Go.Proofs.YtknfpggiigncpaaGreatDoorW.PrintLast Go.Proofs.YtknfpggiigncpaaGreatDoorW.PrintMore

/-- The reader's block. -/
def Rd (g : Nat) (s : ByteArray) (p : Nat) (ov : Value) (w : World) : Prop := w.heap[g]? = some (.cells #[.string s, .int .i64 p, ov] 83 (0, 0))
theorem Rd.at_ {g : Nat} {s : ByteArray} {p : Nat} {ov : Value} {w : World} (h : Rd g s p ov w) (i : Nat) : w.cell? ⟨g, i, none⟩ = #[.string s, .int .i64 p, ov][i]? := cell_of_row _ _ _ _ _ _ h
theorem Rd.free {g : Nat} {s : ByteArray} {p : Nat} {ov : Value} {w : World} (h : Rd g s p ov w) (i : Nat) : w.frozen? ⟨g, i, none⟩ = false := frozen_of_row _ _ _ _ _ h
theorem Rd.put {g : Nat} {s : ByteArray} {p : Nat} {ov : Value} {w : World} (h : Rd g s p ov w) (q : Nat) : Rd g s q ov (w.setCell ⟨g, 1, none⟩ (.int .i64 q)) := heap_setCell_same _ _ _ _ _ _ h
theorem Rd.lt {g : Nat} {s : ByteArray} {p : Nat} {ov : Value} {w : World} (h : Rd g s p ov w) : g < w.heap.size := (Array.getElem?_eq_some_iff.1 h).1
theorem Rd.drewN {g : Nat} {s : ByteArray} {p : Nat} {ov : Value} {w : World} (h : Rd g s p ov w) (n : Nat) : Rd g s p ov (w.drewN n) := h
theorem Rd.below {g : Nat} {s : ByteArray} {p : Nat} {ov : Value} {w w1 : World} (h : Rd g s p ov w) (hb : Below w.heap.size w w1) : Rd g s p ov w1 := (hb.block g h.lt).trans h
/-- What turned: at most the reader's block. -/
def Ch (g : Nat) (w w' : World) : Prop := Below g w w' ∧ KeepBut w w' g none
theorem Ch.refl (g : Nat) (w : World) : Ch g w w := ⟨Below.refl _ _, KeepBut.refl _ _ _⟩
theorem Ch.trans {g : Nat} {a b c : World} (h : Ch g a b) (k : Ch g b c) : Ch g a c := ⟨h.1.trans k.1, h.2.trans k.2 (.inl rfl)⟩
theorem Ch.of_below {g : Nat} {w w1 : World} (h : Below w.heap.size w w1) (hg : g ≤ w.heap.size) : Ch g w w1 := ⟨h.mono hg, KeepBut.of_below h _ _⟩
theorem Ch.drewN {g : Nat} {w w1 : World} (h : Ch g w w1) (n : Nat) : Ch g w (w1.drewN n) := ⟨pw_below_drewN h.1 n, keep_drewN h.2 n⟩
theorem Ch.set {g : Nat} {w w1 : World} (h : Ch g w w1) (j : Nat) (u : Value) : Ch g w (w1.setCell ⟨g, j, none⟩ u) := ⟨h.1.setCell (p := ⟨g, j, none⟩) (Nat.le_refl _) _, h.2.set_ j u⟩
/-- What is thrown: a place, and an error's number. -/
def wrongV (a : Nat) (er : Int) : Value := .iface 79 (.agg #[.int .i64 a, .int .i64 er])
def Thrown (e : Ending) (a : Nat) (er : Int) : Prop := e = .panicked [{ v := wrongV a er, recovered := false }]

/-- The library's variables lie below the reader. -/
def Gl (g : Nat) (w : World) : Prop := ∃ w0, Glob w0 ∧ w0.heap.size ≤ g ∧ Below w0.heap.size w0 w
theorem Gl.glob {g : Nat} {w : World} (h : Gl g w) : Glob w := by
  obtain ⟨w0, h0, _, h2⟩ := h
  exact h0.below h2
theorem Gl.below {g : Nat} {w w1 : World} (h : Gl g w) (hb : Below w.heap.size w w1) : Gl g w1 := by
  obtain ⟨w0, h0, h1, h2⟩ := h
  exact ⟨w0, h0, h1, h2.trans (hb.mono h2.size)⟩
/-- What a method of the reader comes to: it returns at a place, or throws. -/
def Res (g : Nat) (s : ByteArray) (ov : Value) (w : World) (r : Except (Nat × Int) (Value × Nat)) (e : Ending) (w' : World) : Prop :=
  match r with
  | .ok (v, q) => e = .returned v ∧ Rd g s q ov w' ∧ Ch g w w'
  | .error (a, er) => Thrown e a er ∧ Below g w w'
theorem Res.ok {g : Nat} {s : ByteArray} {ov : Value} {w : World} {v : Value} {q : Nat} {e : Ending} {w' : World} (h : Res g s ov w (.ok (v, q)) e w') : e = .returned v ∧ Rd g s q ov w' ∧ Ch g w w' := h
theorem Res.error {g : Nat} {s : ByteArray} {ov : Value} {w : World} {a : Nat} {er : Int} {e : Ending} {w' : World} (h : Res g s ov w (.error (a, er)) e w') : e = .panicked [{ v := wrongV a er, recovered := false }] ∧ Below g w w' := h

def rs (s : ByteArray) (p : Nat) : List UInt8 := s.data.toList.drop p
end Go.Proofs.YtknfpggiigncpaaGreatDoor.C
end
section
-- Written by xprint.py (wip/) for this claim: the kit's print, with functions proved by hand taken as known. Lean checks it.
namespace Go.Proofs.YtknfpggiigncpaaGreatDoor.D
open Go.RowKit Go.Proofs.YtknfpggiigncpaaGreatDoorW.PrintWords Go.Proofs.YtknfpggiigncpaaGreatDoorW.PrintLast Go.Proofs.YtknfpggiigncpaaGreatDoorW.PrintMore
attribute [local go_sem] max2_int min2_int max_two min_two max_three min_three max_four min_four   -- for this text's walks alone
set_option linter.unusedVariables false
set_option linter.unusedSimpArgs false



def errW : Option Int → Value
  | none => .nilIface
  | some c => .iface 0 (.int .i64 c)
theorem errW_none : errW none = .nilIface := rfl
theorem errW_some (c : Int) : errW (some c) = .iface 0 (.int .i64 c) := rfl

-- the values' own types

end Go.Proofs.YtknfpggiigncpaaGreatDoor.D
end
section
-- Written by xprint.py (wip/) for this claim: the kit's print, with functions proved by hand taken as known. Lean checks it.
namespace Go.Proofs.YtknfpggiigncpaaGreatDoor.D
open Go.RowKit Go.Proofs.YtknfpggiigncpaaGreatDoorW.PrintWords Go.Proofs.YtknfpggiigncpaaGreatDoorW.PrintLast Go.Proofs.YtknfpggiigncpaaGreatDoorW.PrintMore
attribute [local go_sem] max2_int min2_int max_two min_two max_three min_three max_four min_four   -- for this text's walks alone
set_option linter.unusedVariables false
set_option linter.unusedSimpArgs false

/-! ### token_letter: function 149 -/
end Go.Proofs.YtknfpggiigncpaaGreatDoor.D
end
section
set_option linter.unusedVariables false
set_option linter.unusedSimpArgs false
namespace Go.Proofs.YtknfpggiigncpaaGreatDoor.C
open Go.RowKit Go.Proofs.YtknfpggiigncpaaGreatDoor.P Go.Proofs.YtknfpggiigncpaaGreatDoor.A Go.Proofs.YtknfpggiigncpaaGreatDoorW.PrintWords Go.Proofs.YtknfpggiigncpaaGreatDoorW.PrintLast Go.Proofs.YtknfpggiigncpaaGreatDoorW.PrintMore

/-- The reader's tokens are its own. -/
def Own (g : Nat) (ov : Value) (xs : List S44) (w : World) : Prop := Kd.S k44 44 w (g + 1) (fun k => g < k) ov xs
end Go.Proofs.YtknfpggiigncpaaGreatDoor.C
end
