/-
  DERIVED. GIVEN WITH THE SEED: THE CARDS: each row of YtepphihcggppbaaDoorRows.lean that lists a variable, with what it lists TIED to the program's text (the seventh form; the later family's looks); each row that meets fmt, with fmt's text TOLD by the authors' own Lean function (tested against real Go, not proved from fmt's source: count such statements apart). THE CARD IS WHAT COUNTS. Prove the row's statement (the work); the ties are given (YtepphihcggppbaaDoorTie.lean); close each card by the builder's one call (the guide's Derived/Test/ToyasCard.lean, 'card_holds'). Laid BY PROGRAM, IN A SANDBOX (cutbox-door.mjs). By AI agents, Wed Nov 11 2026. No macro, syntax, notation, axiom, sorry.
-/
import Derived.Test.YtepphihcggppbaaDoorRows
import GoSem.ClaimSeven
namespace Go.Proofs.YtepphihcggppbaaDoor
namespace Rows

/-- THE TIED CARD OF 'remitterlaw18.MtspecTold'. -/
def mtspecToldCard : Claim7 := { stood := { row := mtspecToldRow, standIns := [], harness := (true, "ecc73d058bd08f06ee8301e381f4af447f7d078ab7f043d4ea92bedf87c6eccc"), looks := true }, kinds := [], alts := [], laidByText := true, laidKinds := [.data, .data, .data, .data, .sentinel, .sentinel, .listed, .data, .pinned], laidTests := true, laidLooks := .later }
def MtspecToldCardSaid : Prop := Claim7.holds Tryd.pinned (.plain (OpenSpec.ofChange mtspecToldSpec)) mtspecToldCard

/-- THE TIED CARD OF 'remitterlaw17.FieldReads'. -/
def fieldReadsCard : Claim7 := { stood := { row := fieldReadsRow, standIns := [], harness := (true, "ecc73d058bd08f06ee8301e381f4af447f7d078ab7f043d4ea92bedf87c6eccc"), looks := true }, kinds := [], alts := [], laidByText := true, laidKinds := [.data, .pinned], laidTests := true, laidLooks := .later }
def FieldReadsCardSaid : Prop := Claim7.holds Tryd.pinned (.plain (OpenSpec.ofChange fieldReadsSpec)) fieldReadsCard

/-- THE TIED CARD OF 'remitterlaw20.MxspecLeaves'. -/
def mxspecLeavesCard : Claim7 := { stood := { row := mxspecLeavesRow, standIns := [], harness := (true, "ecc73d058bd08f06ee8301e381f4af447f7d078ab7f043d4ea92bedf87c6eccc"), looks := true }, kinds := [], alts := [], laidByText := true, laidKinds := [.data, .data, .data, .data, .sentinel, .sentinel, .listed, .data, .pinned], laidTests := true, laidLooks := .later }
def MxspecLeavesCardSaid : Prop := Claim7.holds Tryd.pinned (.plain (OpenSpec.ofChange mxspecLeavesSpec)) mxspecLeavesCard

/-- THE SECOND FORM's CARD OF 'remitterlaw18.MtspecTold'. -/
def mtspecToldUptoCard : Claim7 := { stood := { row := mtspecToldUptoRow, standIns := [], harness := (true, "ecc73d058bd08f06ee8301e381f4af447f7d078ab7f043d4ea92bedf87c6eccc"), looks := true }, kinds := [], alts := [], laidByText := true, laidKinds := [.data, .data, .data, .data, .sentinel, .sentinel, .listed, .data, .pinned], laidTests := true, laidLooks := .later }
def MtspecToldUptoCardSaid : Prop := Claim7.holds Tryd.pinned (.plain (OpenSpec.upto mtspecToldSpec)) mtspecToldUptoCard

/-- THE SECOND FORM's CARD OF 'remitterlaw17.FieldReads'. -/
def fieldReadsUptoCard : Claim7 := { stood := { row := fieldReadsUptoRow, standIns := [], harness := (true, "ecc73d058bd08f06ee8301e381f4af447f7d078ab7f043d4ea92bedf87c6eccc"), looks := true }, kinds := [], alts := [], laidByText := true, laidKinds := [.data, .pinned], laidTests := true, laidLooks := .later }
def FieldReadsUptoCardSaid : Prop := Claim7.holds Tryd.pinned (.plain (OpenSpec.upto fieldReadsSpec)) fieldReadsUptoCard

/-- THE SECOND FORM's CARD OF 'remitterlaw20.MxspecLeaves'. -/
def mxspecLeavesUptoCard : Claim7 := { stood := { row := mxspecLeavesUptoRow, standIns := [], harness := (true, "ecc73d058bd08f06ee8301e381f4af447f7d078ab7f043d4ea92bedf87c6eccc"), looks := true }, kinds := [], alts := [], laidByText := true, laidKinds := [.data, .data, .data, .data, .sentinel, .sentinel, .listed, .data, .pinned], laidTests := true, laidLooks := .later }
def MxspecLeavesUptoCardSaid : Prop := Claim7.holds Tryd.pinned (.plain (OpenSpec.upto mxspecLeavesSpec)) mxspecLeavesUptoCard
end Rows
end Go.Proofs.YtepphihcggppbaaDoor
