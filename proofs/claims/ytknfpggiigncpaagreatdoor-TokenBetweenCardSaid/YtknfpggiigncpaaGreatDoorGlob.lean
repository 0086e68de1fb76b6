/- What the walks of this seat ask of the library's package-level variables: that they hold what their initialisers lay, or some value; and that it stays so while only new memory is written. -/
import Derived.Test.YtknfpggiigncpaaGreatDoorProg
import Derived.Below
import Derived.Shelf.Unicode.DecodeAny
namespace Go.Proofs.YtknfpggiigncpaaGreatDoor.P
open Go.RowKit

/-- A cell that holds some error. -/
def HasErr (w : World) (g : Nat) : Prop := ∃ v, w.cell? ⟨g, 0, none⟩ = some v ∧ (v = .nilIface ∨ ∃ te pe, v = .iface te pe)
/-- The library's variables, as this seat's walks read them. -/
structure Glob (w : World) : Prop where
  utf8 : Lib.Utf8Tabs 0 1 w
  maxLen : ∃ n : Int, w.cell? ⟨2, 0, none⟩ = some (.int .i64 n)
  errSyntax : HasErr w 3
  errRange : HasErr w 4

theorem cellBelow {w W : World} (h : Below w.heap.size w W) {a : Addr} {v : Value} (hc : w.cell? a = some v) : W.cell? a = some v := (h.cell (World.block_lt_of_cell? w a hc)).trans hc

theorem Glob.below {w W : World} (h : Glob w) (hb : Below w.heap.size w W) : Glob W :=
  ⟨⟨fun c hc => cellBelow hb (h.utf8.1 c hc), fun i hi => ⟨cellBelow hb (h.utf8.2 i hi).1, cellBelow hb (h.utf8.2 i hi).2⟩⟩,
   h.maxLen.elim fun n hn => ⟨n, cellBelow hb hn⟩, h.errSyntax.elim fun v hv => ⟨v, cellBelow hb hv.1, hv.2⟩, h.errRange.elim fun v hv => ⟨v, cellBelow hb hv.1, hv.2⟩⟩
end Go.Proofs.YtknfpggiigncpaaGreatDoor.P
