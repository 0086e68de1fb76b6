/- strings.byteStringReplacer.Replace, at the replacer that text.Escape builds. -/
import Derived.Test.YtknfpggiigncpaaGreatDoorXCheck
import Derived.Laws.IdiomCopy
import Derived.Laws.CopyOwn
import Derived.Deep.RegionLaw
import Derived.Laws.Cover3
import Derived.Laws.OwnMore
import Derived.Laws.CopyRow
import Derived.Laws.IdiomStrings
import Derived.Deep.CutRange
import Derived.Deep.QuietTactic
import Derived.BigQuiet
set_option linter.unusedVariables false
set_option linter.unusedSimpArgs false
namespace Go.Proofs.YtknfpggiigncpaaGreatDoor.P
open Go.RowKit Go.Proofs.YtknfpggiigncpaaGreatDoorW.PrintWords

def repOf (b : UInt8) : Option (List UInt8) :=
  if b = 38 then some [38, 97, 109, 112, 59] else if b = 60 then some [38, 108, 116, 59] else if b = 62 then some [38, 103, 116, 59]
  else if b = 34 then some [38, 113, 117, 111, 116, 59] else if b = 39 then some [38, 97, 112, 111, 115, 59] else if b = 9 then some [38, 35, 120, 57, 59]
  else if b = 10 then some [38, 35, 120, 65, 59] else if b = 13 then some [38, 35, 120, 68, 59] else none
@[go_sem, simp] theorem byte_of_one (b : UInt8) (h : 0 < (ByteArray.mk #[b]).size) : (ByteArray.mk #[b])[0] = b := rfl
def keys8 : List UInt8 := [13, 10, 9, 39, 34, 62, 60, 38]
/-- One of the 256 entries. -/
def EntAt (m : Option (List UInt8)) (rb o : Nat) (w : World) : Prop := match m with
  | none => w.cell? ⟨rb, o, none⟩ = some (.slice none 0 0)
  | some n => ∃ g cap, w.cell? ⟨rb, o, none⟩ = some (.slice (some ⟨g, 0, none⟩) n.length cap) ∧ ∀ j v, (n.map fun b => Value.int .u8 (b.toNat : Int))[j]? = some v → w.cell? ((⟨g, 0, none⟩ : Addr).add j) = some v
structure Rep (rb : Nat) (w : World) : Prop where
  ents : ∀ o : Nat, o < 256 → EntAt (repOf (UInt8.ofNat o)) rb o w
  keys : ∃ g cap, w.cell? ⟨rb, 256, none⟩ = some (.slice (some ⟨g, 0, none⟩) 8 cap) ∧ ∀ i (h : i < 8), w.cell? ⟨g, i, none⟩ = some (.string ⟨#[keys8[i]]⟩)
theorem EntAt.below {m : Option (List UInt8)} {rb o : Nat} {w W : World} (h : EntAt m rb o w) (hb : Below w.heap.size w W) : EntAt m rb o W := by
  cases m with
  | none => exact cellBelow hb h
  | some n =>
    obtain ⟨g, cap, h1, h2⟩ := h
    exact ⟨g, cap, cellBelow hb h1, fun j v hj => cellBelow hb (h2 j v hj)⟩
theorem Rep.below {rb : Nat} {w W : World} (h : Rep rb w) (hb : Below w.heap.size w W) : Rep rb W :=
  ⟨fun o ho => (h.ents o ho).below hb, h.keys.elim fun g hg => hg.elim fun cap hc => ⟨g, cap, cellBelow hb hc.1, fun i hi => cellBelow hb (hc.2 i hi)⟩⟩

end Go.Proofs.YtknfpggiigncpaaGreatDoor.P
