/- What the walks of this seat ask of the library's package-level variables: that they hold what their initialisers lay, or some value; and that it stays so while only new memory is written. -/
import Derived.Test.YtepphihcggppbaaDoorProg
import Derived.Below
import Derived.Lib.Space
import Derived.RowKit
namespace Go.Proofs.YtepphihcggppbaaDoor.A
open Go.RowKit

/-- A cell that holds some error. -/
def HasErr (w : World) (g : Nat) : Prop := ∃ v, w.cell? ⟨g, 0, none⟩ = some v ∧ (v = .nilIface ∨ ∃ te pe, v = .iface te pe)
def spT (c : Nat) : Int := if Lib.isSp (UInt8.ofNat c) then 1 else 0
/-- The library's variables, as this seat's walks read them. -/
structure Glob (w : World) : Prop where
  ascii : ∀ c : Nat, c < 256 → w.cell? ⟨0, c, none⟩ = some (.int .u8 (spT c))
  errSyntax : HasErr w 2
theorem cellBelow {w W : World} (h : Below w.heap.size w W) {a : Addr} {v : Value} (hc : w.cell? a = some v) : W.cell? a = some v := (h.cell (World.block_lt_of_cell? w a hc)).trans hc
theorem Glob.below {w W : World} (h : Glob w) (hb : Below w.heap.size w W) : Glob W :=
  ⟨fun c hc => cellBelow hb (h.ascii c hc), h.errSyntax.elim fun v hv => ⟨v, cellBelow hb hv.1, hv.2⟩⟩
end Go.Proofs.YtepphihcggppbaaDoor.A
