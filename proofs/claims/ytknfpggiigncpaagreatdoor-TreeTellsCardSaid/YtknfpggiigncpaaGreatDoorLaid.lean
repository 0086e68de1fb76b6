/- From the rows' cell 'laid' to what the walks ask of the library's variables; a world that holds them, for the rows' witness. -/
import Derived.Test.YtknfpggiigncpaaGreatDoorFx1
import Derived.Test.YtknfpggiigncpaaGreatDoorUr9
import Derived.Test.YtknfpggiigncpaaGreatDoorSm
import Derived.Test.YtknfpggiigncpaaGreatDoorRows
import Derived.Test.YtknfpggiigncpaaGreatDoorGlob
import Derived.Test.YtknfpggiigncpaaGreatDoorShelf
import Derived.WalkKit
import Derived.ProofKit
import Derived.OpenShut
import Derived.LaidLaws
import Derived.Lib.LaidU8
set_option maxRecDepth 100000
set_option linter.unusedVariables false
set_option linter.unusedSimpArgs false
section
namespace Go.Proofs.YtknfpggiigncpaaGreatDoor.T
open Go.RowKit P E YtknfpggiigncpaaGreatDoorW.PrintLast YtknfpggiigncpaaGreatDoorW.PrintMore
open YtknfpggiigncpaaGreatDoorW.PrintWords
set_option maxHeartbeats 4000000 in
theorem treeTells_any (s : ByteArray) (w : World) (hs : s.size ≤ 140737488355328) (hG : Glob w) : Calls Tryz.prog 9 #[.string s] w fun e w' => e = .returned (.bool true) ∧ Below w.heap.size w w' := by
 have HG := Lib.hid hG
 clear hG
 by_cases h3 : 3000 < s.size
 ·
  have b1 : decide ((3000 : Int) < (s.size : Int)) = true := decide_eq_true (by omega)
  have b2 : decide (3000 < s.size) = true := decide_eq_true h3
  go_enter Tryz.func9, Tryz.ntmps9
  go_wp2_with fail
  refine (twakes_any w HG.out).mono ?_
  rintro e w1 ⟨rfl, hb⟩
  dsimp only
  go_wp2_with fail
  go_ret
  exact ⟨rfl, hb⟩
 ·
  have b1 : decide ((3000 : Int) < (s.size : Int)) = false := decide_eq_false (by omega)
  have b2 : decide (3000 < s.size) = false := decide_eq_false h3
  have hp1 := fun w hG => parse_any s w hs hG
  have hp2 := fun w => rparse_any s w (by omega)
  have hcnt := parse_cnt s
  have hpl := parse_place s
  rw [parse_same] at hp1
  generalize parseD s = R at hp1 hp2 hcnt hpl
  obtain ⟨K, hK⟩ := same_ev5 R.root hcnt
  obtain ⟨hp0, hpn⟩ := hpl
  have HP1 := Lib.hid hp1
  have HP2 := Lib.hid hp2
  have HK := Lib.hid hK
  clear hp1 hp2 hK hcnt h3
  go_enter Tryz.func9, Tryz.ntmps9
  go_wp2_with fail
  refine (HP1.out _ HG.out).mono ?_
  rintro e w1 ⟨A1, c1, rfl, hc1, hC1, hb1⟩
  have hba1 := below_alloc (Below.refl w1.heap.size w1) (.cells #[.string R.root.f0, .string R.root.f1, .slice A1 R.root.f2.length c1] 24)
  have hk1 := (MapKept.heap_alloc w1 (.cells #[.string R.root.f0, .string R.root.f1, .slice A1 R.root.f2.length c1] 24)).1
  have HB2 := Lib.hid (hb1.trans (hba1.mono hb1.size))
  have HC2 := Lib.hid (Kd.C_below hC1 hba1)
  clear hC1 hb1 hba1
  dsimp only
  go_wp2_with fail
  generalize w1.heap.size = ga at hk1 ⊢
  generalize w1.alloc _ = w2 at hk1 HB2 HC2 ⊢
  refine (HP2.out _).mono ?_
  rintro e w3 ⟨A2, c2, rfl, hc2, hC2, hb3⟩
  have hba3 := below_alloc (Below.refl w3.heap.size w3) (.cells #[.string R.root.f0, .string R.root.f1, .slice A2 R.root.f2.length c2] 24)
  have hl1 := (MapKept.heap_alloc w3 (.cells #[.string R.root.f0, .string R.root.f1, .slice A2 R.root.f2.length c2] 24)).1
  have hb34 := hb3.trans (hba3.mono hb3.size)
  have HB4 := Lib.hid (HB2.out.trans (hb34.mono HB2.out.size))
  have HC4 := Lib.hid (Kd.C_below HC2.out hb34)
  have HD4 := Lib.hid (Kd.C_below hC2 hba3)
  have hk4 := (hb34.block ga (Array.getElem?_eq_some_iff.1 hk1).1).trans hk1
  clear hC2 hb3 hba3 hb34 HB2 HC2 hk1
  dsimp only
  go_upto_region 5 with fail
  generalize w3.heap.size = gb at hl1 ⊢
  generalize w3.alloc _ = w4 at hk4 hl1 HB4 HC4 HD4 ⊢
  have a0 := crow 0 (Value.string R.root.f0) hk4
  have a1 := crow 1 (Value.string R.root.f1) hk4
  have a2 := crow 2 (Value.slice A1 R.root.f2.length c1) hk4
  have d0 := crow 0 (Value.string R.root.f0) hl1
  have d1 := crow 1 (Value.string R.root.f1) hl1
  have d2 := crow 2 (Value.slice A2 R.root.f2.length c2) hl1
  have x1 : (R.space.toList == R.space.toList) = true := by simp
  have x2 : (R.err == R.err) = true := by simp
  have x3 : (R.at_ == R.at_) = true := by simp
  have x4 : decide ((0 : Int) ≤ R.at_) = true := decide_eq_true hp0
  have x5 : decide (R.at_ ≤ (s.size : Int)) = true := decide_eq_true hpn
  go_wp2_with fail
  refine (E.remitterref10_Same.yes K R.root.f0 R.root.f1 A1 c1 R.root.f2 R.root.f0 R.root.f1 A2 c2 R.root.f2 w4 HC4.out hc1 HD4.out hc2 HK.out).mono ?_
  rintro e w5 ⟨rfl, hb5⟩
  have HB5 := Lib.hid (HB4.out.trans (hb5.mono HB4.out.size))
  clear hb5
  dsimp only
  go_wp2_with fail
  refine (twakes_any w5 (HG.out.below HB5.out)).mono ?_
  rintro e w6 ⟨rfl, hb6⟩
  have HB6 := Lib.hid (HB5.out.trans (hb6.mono HB5.out.size))
  clear hb6
  dsimp only
  go_wp2_with fail
  go_ret
  exact ⟨rfl, HB6.out⟩
end Go.Proofs.YtknfpggiigncpaaGreatDoor.T
end
section
namespace Go.Proofs.YtknfpggiigncpaaGreatDoor.P
open Go.RowKit
theorem u8extra : Go.Proofs.U8Extra Tryz.prog Tryz.lays260_ren := ⟨by kernel_rfl, by kernel_rfl, by kernel_rfl, by kernel_rfl, by kernel_rfl, by kernel_rfl, by kernel_rfl⟩
theorem first_is : Rows.laid_unicode_utf8_first = Go.Lib.firstData := by kernel_rfl
theorem accept_is : (Rows.laid_unicode_utf8_acceptRanges : DataW Unit) = Go.Lib.acceptData := by kernel_rfl
theorem err_of_reads {W : World} {name : String} {g : Nat} {n : String} {d : DataW Unit} (hg : Tryz.prog.globalNamed name = some g) (ht : (Tryz.prog.globals[g]?).map (·.type) = some 68) (h : Lib.VarReads Tryz.prog W name (.iface n d)) : HasErr W g := by
 obtain ⟨g', t, cs, fuel, p, hg', hty, hvar, hd⟩ := h
 obtain rfl := Option.some.inj (hg.symm.trans hg')
 obtain rfl := Option.some.inj (ht.symm.trans hty)
 have hc := World.var?_cell hg hvar 0
 cases fuel with
 | zero => simp [DataW.trod] at hd
 | succ fuel =>
  have hk : (Tryz.prog.underlying 68).map (fun | .interface _ => true | _ => false) = some true := by kernel_rfl
  obtain ⟨m, hu⟩ : ∃ m, Tryz.prog.underlying 68 = some (.interface m) := by
   cases hq : Tryz.prog.underlying 68 with
   | none => rw [hq] at hk; cases hk
   | some x =>
    rw [hq] at hk
    cases x <;> first | exact ⟨_, rfl⟩ | (simp at hk)
  have hl0 : cs[0]? = cs.toList[0]? := by simp
  rw [hl0] at hc
  generalize cs.toList = l at hd hc
  unfold DataW.trod at hd
  rw [hu] at hd
  match l, hd, hc with
  | [], hd, _ => simp at hd
  | v :: u :: r, hd, _ => simp at hd
  | [v], hd, hc =>
   cases v with
   | iface u x => exact ⟨_, hc, .inr ⟨u, x, rfl⟩⟩
   | nilIface => simp at hd
   | _ => simp at hd
theorem glob_of {L : List (String × DataW Unit)} {W : World} (hL : laidMet Tryz.prog L W) (hS : W.ShapedOpen Tryz.prog)
  (m1 : ("unicode/utf8.first", Rows.laid_unicode_utf8_first) ∈ L) (m2 : ("unicode/utf8.acceptRanges", Rows.laid_unicode_utf8_acceptRanges) ∈ L)
  (m3 : ("strconv.ErrSyntax", Rows.laid_strconv_ErrSyntax) ∈ L) (m4 : ("strconv.ErrRange", Rows.laid_strconv_ErrRange) ∈ L) : Glob W := by
 refine ⟨?_, ?_, ?_, ?_⟩
 ·
  have h1 := Lib.laidMet.reads hL m1
  have h2 := Lib.laidMet.reads hL m2
  rw [first_is] at h1
  rw [accept_is] at h2
  exact utf8Tabs_of_reads Tryz.lays260 u8extra h1 h2
 ·
  exact Tryz.laysM138.s1_3 W hS
 ·
  exact err_of_reads (by kernel_rfl) (by kernel_rfl) (Lib.laidMet.reads hL m3)
 ·
  exact err_of_reads (by kernel_rfl) (by kernel_rfl) (Lib.laidMet.reads hL m4)
def flat1 : DataW Unit → List Value
 | .lit (.int k n) => [.int k n]
 | _ => []
def flat2 : DataW Unit → List Value
 | .agg xs => xs.flatMap flat1
 | d => flat1 d
def flat3 : DataW Unit → Array Value
 | .agg xs => (xs.flatMap flat2).toArray
 | _ => #[]
def putCells (cs : Array Value) : Obj → Obj
 | .cells _ t frozen => .cells cs t frozen
 | o => o
def textS : ByteArray := ⟨#[105, 110, 118, 97, 108, 105, 100, 32, 115, 121, 110, 116, 97, 120]⟩
def textR : ByteArray := ⟨#[118, 97, 108, 117, 101, 32, 111, 117, 116, 32, 111, 102, 32, 114, 97, 110, 103, 101]⟩
noncomputable def low : Nat := (World.holding Tryz.prog default ⟨#[], #[], []⟩).heap.size
noncomputable def laidWorld (os : Os) : World :=
 let w0 := World.holding Tryz.prog os ⟨#[.cells #[.string textS] 262, .cells #[.string textR] 262], #[], []⟩
 { w0 with heap := ((((((w0.heap.modify 0 (putCells (flat3 Rows.laid_unicode_utf8_first))).modify 1 (putCells (flat3 Rows.laid_unicode_utf8_acceptRanges))).modify 3 (putCells #[.iface 260 (.pointer (some ⟨low, 0, none⟩))])).modify 4 (putCells #[.iface 260 (.pointer (some ⟨low + 1, 0, none⟩))])).modify 5 (putCells (flat3 Rows.laid_internal_strconv_uint64pow10))).modify 6 (putCells (flat3 Rows.laid_math_bits_deBruijn32tab))).modify 7 (putCells (flat3 Rows.laid_math_bits_deBruijn64tab)) }
end Go.Proofs.YtknfpggiigncpaaGreatDoor.P
end
