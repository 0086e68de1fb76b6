/- From the rows' cell 'laid' to what the walks ask of the library's variables; a world that holds them, for the rows' witness. -/
import Derived.Test.YtknfpggiigncpaaGreatDoorRows
import Derived.Test.YtknfpggiigncpaaGreatDoorGlob
import Derived.Test.YtknfpggiigncpaaGreatDoorShelf
import Derived.WalkKit
import Derived.ProofKit
import Derived.OpenShut
import Derived.LaidLaws
import Derived.Lib.LaidU8
set_option linter.unusedVariables false
set_option linter.unusedSimpArgs false
namespace Go.Proofs.YtknfpggiigncpaaGreatDoor.P
open Go.RowKit

theorem u8extra : Go.Proofs.U8Extra Tryz.prog Tryz.lays260_ren := ⟨by kernel_rfl, by kernel_rfl, by kernel_rfl, by kernel_rfl, by kernel_rfl, by kernel_rfl, by kernel_rfl⟩
theorem first_is : Rows.laid_unicode_utf8_first = Go.Lib.firstData := by kernel_rfl
theorem accept_is : (Rows.laid_unicode_utf8_acceptRanges : DataW Unit) = Go.Lib.acceptData := by kernel_rfl
set_option maxRecDepth 100000 in
theorem err_of_reads {W : World} {name : String} {g : Nat} {n : String} {d : DataW Unit} (hg : Tryz.prog.globalNamed name = some g) (ht : (Tryz.prog.globals[g]?).map (·.type) = some 68) (h : Lib.VarReads Tryz.prog W name (.iface n d)) : HasErr W g := by
  obtain ⟨g', t, cs, fuel, p, hg', hty, hvar, hd⟩ := h
  obtain rfl := Option.some.inj (hg.symm.trans hg')
  obtain rfl := Option.some.inj (ht.symm.trans hty)
  have hc := World.var?_cell hg hvar 0
  cases fuel with
  | zero => simp [DataW.trod] at hd
  | succ fuel =>
    have hk : (Tryz.prog.underlying 68).map (fun | .interface _ => true | _ => false) = some true := by kernel_rfl
    obtain ⟨m, hu⟩ : ∃ m, Tryz.prog.underlying 68 = some (.interface m) := by
      cases hq : Tryz.prog.underlying 68 with
      | none => rw [hq] at hk; cases hk
      | some x =>
        rw [hq] at hk
        cases x <;> first | exact ⟨_, rfl⟩ | (simp at hk)
    have hl0 : cs[0]? = cs.toList[0]? := by simp
    rw [hl0] at hc
    generalize cs.toList = l at hd hc
    unfold DataW.trod at hd
    rw [hu] at hd
    match l, hd, hc with
    | [], hd, _ => simp at hd
    | v :: u :: r, hd, _ => simp at hd
    | [v], hd, hc =>
      cases v with
      | iface u x => exact ⟨_, hc, .inr ⟨u, x, rfl⟩⟩
      | nilIface => simp at hd
      | _ => simp at hd

theorem glob_of {L : List (String × DataW Unit)} {W : World} (hL : laidMet Tryz.prog L W) (hS : W.ShapedOpen Tryz.prog)
    (m1 : ("unicode/utf8.first", Rows.laid_unicode_utf8_first) ∈ L) (m2 : ("unicode/utf8.acceptRanges", Rows.laid_unicode_utf8_acceptRanges) ∈ L)
    (m3 : ("strconv.ErrSyntax", Rows.laid_strconv_ErrSyntax) ∈ L) (m4 : ("strconv.ErrRange", Rows.laid_strconv_ErrRange) ∈ L) : Glob W := by
  refine ⟨?_, ?_, ?_, ?_⟩
  · have h1 := Lib.laidMet.reads hL m1
    have h2 := Lib.laidMet.reads hL m2
    rw [first_is] at h1
    rw [accept_is] at h2
    exact utf8Tabs_of_reads Tryz.lays260 u8extra h1 h2
  · exact Tryz.laysM138.s1_3 W hS
  · exact err_of_reads (by kernel_rfl) (by kernel_rfl) (Lib.laidMet.reads hL m3)
  · exact err_of_reads (by kernel_rfl) (by kernel_rfl) (Lib.laidMet.reads hL m4)

/-- The cells of a table of integers, or of a table of records of integers. -/
def flat1 : DataW Unit → List Value
  | .lit (.int k n) => [.int k n]
  | _ => []
def flat2 : DataW Unit → List Value
  | .agg xs => xs.flatMap flat1
  | d => flat1 d
def flat3 : DataW Unit → Array Value
  | .agg xs => (xs.flatMap flat2).toArray
  | _ => #[]
def putCells (cs : Array Value) : Obj → Obj
  | .cells _ t frozen => .cells cs t frozen
  | o => o
def textS : ByteArray := ⟨#[105, 110, 118, 97, 108, 105, 100, 32, 115, 121, 110, 116, 97, 120]⟩
def textR : ByteArray := ⟨#[118, 97, 108, 117, 101, 32, 111, 117, 116, 32, 111, 102, 32, 114, 97, 110, 103, 101]⟩
noncomputable def low : Nat := (World.holding Tryz.prog default ⟨#[], #[], []⟩).heap.size
/-- A WORLD FOR THE WITNESS: the settled one, the library's tables and errors laid. -/
noncomputable def laidWorld (os : Os) : World :=
  let w0 := World.holding Tryz.prog os ⟨#[.cells #[.string textS] 262, .cells #[.string textR] 262], #[], []⟩
  { w0 with heap := ((((((w0.heap.modify 0 (putCells (flat3 Rows.laid_unicode_utf8_first))).modify 1 (putCells (flat3 Rows.laid_unicode_utf8_acceptRanges))).modify 3 (putCells #[.iface 260 (.pointer (some ⟨low, 0, none⟩))])).modify 4 (putCells #[.iface 260 (.pointer (some ⟨low + 1, 0, none⟩))])).modify 5 (putCells (flat3 Rows.laid_internal_strconv_uint64pow10))).modify 6 (putCells (flat3 Rows.laid_math_bits_deBruijn32tab))).modify 7 (putCells (flat3 Rows.laid_math_bits_deBruijn64tab)) }
end Go.Proofs.YtknfpggiigncpaaGreatDoor.P
