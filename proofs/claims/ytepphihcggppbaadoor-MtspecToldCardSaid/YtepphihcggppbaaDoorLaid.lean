/- From the rows' cell 'laid' to what the walks ask of the library's variables; a world that holds them, for the rows' witness. -/
import Derived.Test.YtepphihcggppbaaDoorRows
import Derived.Test.YtepphihcggppbaaDoorGl
import Derived.WalkKit
import Derived.ProofKit
import Derived.OpenShut
import Derived.LaidLaws
import Derived.Lib.LaidU8
import Derived.Lib.LaidTab
set_option linter.unusedVariables false
set_option linter.unusedSimpArgs false
namespace Go.Proofs.YtepphihcggppbaaDoor.A
open Go.RowKit

set_option maxRecDepth 100000 in
theorem err_of_reads {W : World} {name : String} {g : Nat} {n : String} {d : DataW Unit} (hg : Tryd.prog.globalNamed name = some g) (ht : (Tryd.prog.globals[g]?).map (·.type) = some 53) (h : Lib.VarReads Tryd.prog W name (.iface n d)) : HasErr W g := by
  obtain ⟨g', t, cs, fuel, p, hg', hty, hvar, hd⟩ := h
  obtain rfl := Option.some.inj (hg.symm.trans hg')
  obtain rfl := Option.some.inj (ht.symm.trans hty)
  have hc := World.var?_cell hg hvar 0
  cases fuel with
  | zero => simp [DataW.trod] at hd
  | succ fuel =>
    have hk : (Tryd.prog.underlying 53).map (fun | .interface _ => true | _ => false) = some true := by kernel_rfl
    obtain ⟨m, hu⟩ : ∃ m, Tryd.prog.underlying 53 = some (.interface m) := by
      cases hq : Tryd.prog.underlying 53 with
      | none => rw [hq] at hk; cases hk
      | some x =>
        rw [hq] at hk
        cases x <;> first | exact ⟨_, rfl⟩ | (simp at hk)
    have hl0 : cs[0]? = cs.toList[0]? := by simp
    rw [hl0] at hc
    generalize cs.toList = l at hd hc
    unfold DataW.trod at hd
    rw [hu] at hd
    match l, hd, hc with
    | [], hd, _ => simp at hd
    | v :: u :: r, hd, _ => simp at hd
    | [v], hd, hc =>
      cases v with
      | iface u x => exact ⟨_, hc, .inr ⟨u, x, rfl⟩⟩
      | nilIface => simp at hd
      | _ => simp at hd
def asciiZ : List Int := (List.range 256).map spT
theorem ascii_is : (Rows.laid_strings_asciiSpace : DataW Unit) = Lib.tabData .u8 asciiZ := by kernel_rfl
set_option maxRecDepth 100000 in
theorem ascii_of_reads {W : World} (h : Lib.VarReads Tryd.prog W "strings.asciiSpace" (Lib.tabData .u8 asciiZ)) : ∀ c : Nat, c < 256 → W.cell? ⟨0, c, none⟩ = some (.int .u8 (spT c)) := by
  obtain ⟨g', t, cs, fuel, p, hg', hty, hvar, hd⟩ := h
  have hg : Tryd.prog.globalNamed "strings.asciiSpace" = some 0 := by kernel_rfl
  have ht : (Tryd.prog.globals[(0 : Nat)]?).map (·.type) = some 91 := by kernel_rfl
  obtain rfl := Option.some.inj (hg.symm.trans hg')
  obtain rfl := Option.some.inj (ht.symm.trans hty)
  have e := Lib.cells_of_tab (n := 256) (e := 5) (k := .u8) Tryd.underlying91 Tryd.underlying5 (by kernel_rfl) (by kernel_rfl) hd
  intro c hc
  have h2 := World.var?_cell hg hvar c
  rw [h2, ← Array.getElem?_toList, e]
  simp [asciiZ, hc]
theorem glob_of {L : List (String × DataW Unit)} {W : World} (hL : laidMet Tryd.prog L W) (m1 : ("strings.asciiSpace", Rows.laid_strings_asciiSpace) ∈ L) (m3 : ("strconv.ErrSyntax", Rows.laid_strconv_ErrSyntax) ∈ L) : Glob W := by
  refine ⟨?_, ?_⟩
  · have h1 := Lib.laidMet.reads hL m1
    rw [ascii_is] at h1
    exact ascii_of_reads h1
  · exact err_of_reads (by kernel_rfl) (by kernel_rfl) (Lib.laidMet.reads hL m3)

/-- The cells of a table of integers, or of a table of records of integers. -/
def flat1 : DataW Unit → List Value
  | .lit (.int k n) => [.int k n]
  | _ => []
def flat2 : DataW Unit → List Value
  | .agg xs => xs.flatMap flat1
  | d => flat1 d
def flat3 : DataW Unit → Array Value
  | .agg xs => (xs.flatMap flat2).toArray
  | _ => #[]
def putCells (cs : Array Value) : Obj → Obj
  | .cells _ t frozen => .cells cs t frozen
  | o => o
def textS : ByteArray := ⟨#[105, 110, 118, 97, 108, 105, 100, 32, 115, 121, 110, 116, 97, 120]⟩
def textR : ByteArray := ⟨#[118, 97, 108, 117, 101, 32, 111, 117, 116, 32, 111, 102, 32, 114, 97, 110, 103, 101]⟩
def rows16 : Array Value := (match (Rows.laid_unicode_White_Space : DataW Unit) with | .ptr (.agg (.slice xs _ :: _)) => (xs.flatMap flat2).toArray | _ => #[])
noncomputable def low : Nat := (World.holding Tryd.prog default ⟨#[], #[], []⟩).heap.size
/-- A WORLD FOR THE WITNESS: the settled one, the library's tables and errors laid. -/
noncomputable def laidWorld (os : Os) : World :=
  let w0 := World.holding Tryd.prog os ⟨#[.cells #[.string textS] 182, .cells #[.string textR] 182, .cells rows16 158, .cells #[.slice (some ⟨low + 2, 0, none⟩) 7 7, .slice none 0 0, .int .i64 2] 155], #[], []⟩
  { w0 with heap := ((((((((w0.heap.modify 0 (putCells (flat3 Rows.laid_strings_asciiSpace))).modify 1 (putCells #[.pointer (some ⟨low + 3, 0, none⟩)])).modify 2 (putCells #[.iface 180 (.pointer (some ⟨low, 0, none⟩))])).modify 3 (putCells #[.iface 180 (.pointer (some ⟨low + 1, 0, none⟩))])).modify 4 (putCells (flat3 Rows.laid_unicode_utf8_first))).modify 5 (putCells (flat3 Rows.laid_unicode_utf8_acceptRanges))).modify 7 (putCells (flat3 Rows.laid_internal_strconv_uint64pow10))).modify 8 (putCells (flat3 Rows.laid_math_bits_deBruijn32tab))).modify 9 (putCells (flat3 Rows.laid_math_bits_deBruijn64tab)) }
end Go.Proofs.YtepphihcggppbaaDoor.A
