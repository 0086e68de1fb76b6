/- What the walks of this seat ask of the library's package-level variables: that they hold what their initialisers lay, or some value; and that it stays so while only new memory is written. -/
import GoSem.Core.Utf8
import Derived.Lib.RuneBytes
import Derived.Test.YtknfpggiigncpaaGreatDoorProg
import Derived.Below
import Derived.Shelf.Unicode.DecodeAny
set_option linter.unusedVariables false
set_option linter.unusedSimpArgs false
section
namespace Go.Proofs.YtknfpggiigncpaaGreatDoor.P
def xmlB (c : Nat) : Bool := c == 9 || c == 10 || c == 13 || (decide (32 ≤ c) && decide (c ≤ 55295)) || (decide (57344 ≤ c) && decide (c ≤ 65533)) || (decide (65536 ≤ c) && decide (c ≤ 1114111))
def ck (s : ByteArray) : Nat → Nat → Nat × Int
  | 0, _ => (s.size, 0)
  | f + 1, pos =>
    if pos < s.size then
      if (Utf8.decode s pos).1 = 65533 ∧ (Utf8.decode s pos).2 = 1 then (pos, 20)
      else if xmlB (Utf8.decode s pos).1 = true then ck s f (pos + (Utf8.decode s pos).2) else (pos, 15)
    else (s.size, 0)
def text_Check.f (a0 : ByteArray) : Option (Int × Int) := if a0.size ≤ 140737488355328 then some (((ck a0 a0.size 0).1 : Int), (ck a0 a0.size 0).2) else none
def escByte (b : UInt8) : List UInt8 :=
  if b = 38 then [38, 97, 109, 112, 59] else if b = 60 then [38, 108, 116, 59] else if b = 62 then [38, 103, 116, 59]
  else if b = 34 then [38, 113, 117, 111, 116, 59] else if b = 39 then [38, 97, 112, 111, 115, 59] else if b = 9 then [38, 35, 120, 57, 59]
  else if b = 10 then [38, 35, 120, 65, 59] else if b = 13 then [38, 35, 120, 68, 59] else [b]
def escL (l : List UInt8) : List UInt8 := l.flatMap escByte
def digD (b : UInt8) : Nat := if 48 ≤ b.toNat ∧ b.toNat ≤ 57 then b.toNat - 48 else if 97 ≤ b.toNat ∧ b.toNat ≤ 122 then b.toNat - 87 else if 65 ≤ b.toNat ∧ b.toNat ≤ 90 then b.toNat - 55 else 99
def digV (base : Nat) (b : UInt8) : Option Nat := if digD b < base then some (digD b) else none
def numV (base : Nat) : List UInt8 → Nat → Option Nat
  | [], n => some n
  | b :: r, n => (digV base b).bind fun d => numV base r (n * base + d)
def numRef (base : Nat) (l : List UInt8) : Option Nat :=
  if l = [] ∨ 8 < l.length then none else (numV base l 0).bind fun n => if xmlB n = true then some n else none
def refV (l : List UInt8) : Option Nat :=
  match l with
  | 35 :: 120 :: r => numRef 16 r
  | 35 :: r => numRef 10 r
  | _ => if l = [97, 109, 112] then some 38 else if l = [108, 116] then some 60 else if l = [103, 116] then some 62 else if l = [113, 117, 111, 116] then some 34 else if l = [97, 112, 111, 115] then some 39 else none
def semi : List UInt8 → Option (List UInt8)
  | [] => none
  | b :: r => if b = 59 then some [] else (semi r).map (b :: ·)
def unL : Nat → List UInt8 → Nat → List UInt8 → List UInt8 × Nat × Int
  | 0, _, pos, out => (out, pos, 0)
  | _ + 1, [], pos, out => (out, pos, 0)
  | f + 1, b :: r, pos, out =>
    if b = 38 then
      match (semi (r.take 13)).bind fun i => (refV i).map fun c => (i, c) with
      | none => ([], pos, 22)
      | some (i, c) => unL f (r.drop (i.length + 1)) (pos + i.length + 2) (out ++ Lib.encodeRune (c : Int))
    else unL f r (pos + 1) (out ++ [b])
def text_Unescape.f (a0 : ByteArray) : Option (ByteArray × Int × Int) :=
  if a0.size ≤ 140737488351232 then
    let r := unL (a0.size + 1) a0.data.toList 0 []
    some (⟨r.1.toArray⟩, (r.2.1 : Int), r.2.2)
  else none
def blankB (b : UInt8) : Bool := b == 32 || b == 9 || b == 10 || b == 13
def text_Blank.f (a0 : ByteArray) : Option Bool := if a0.size ≤ 140737488355328 then some (a0.data.toList.all blankB) else none
end Go.Proofs.YtknfpggiigncpaaGreatDoor.P
end
section
namespace Go.Proofs.YtknfpggiigncpaaGreatDoor.P
open Go.RowKit
def HasErr (w : World) (g : Nat) : Prop := ∃ v, w.cell? ⟨g, 0, none⟩ = some v ∧ (v = .nilIface ∨ ∃ te pe, v = .iface te pe)
structure Glob (w : World) : Prop where
  utf8 : Lib.Utf8Tabs 0 1 w
  maxLen : ∃ n : Int, w.cell? ⟨2, 0, none⟩ = some (.int .i64 n)
  errSyntax : HasErr w 3
  errRange : HasErr w 4
theorem cellBelow {w W : World} (h : Below w.heap.size w W) {a : Addr} {v : Value} (hc : w.cell? a = some v) : W.cell? a = some v := (h.cell (World.block_lt_of_cell? w a hc)).trans hc
theorem Glob.below {w W : World} (h : Glob w) (hb : Below w.heap.size w W) : Glob W :=
  ⟨⟨fun c hc => cellBelow hb (h.utf8.1 c hc), fun i hi => ⟨cellBelow hb (h.utf8.2 i hi).1, cellBelow hb (h.utf8.2 i hi).2⟩⟩,
   h.maxLen.elim fun n hn => ⟨n, cellBelow hb hn⟩, h.errSyntax.elim fun v hv => ⟨v, cellBelow hb hv.1, hv.2⟩, h.errRange.elim fun v hv => ⟨v, cellBelow hb hv.1, hv.2⟩⟩
end Go.Proofs.YtknfpggiigncpaaGreatDoor.P
end
