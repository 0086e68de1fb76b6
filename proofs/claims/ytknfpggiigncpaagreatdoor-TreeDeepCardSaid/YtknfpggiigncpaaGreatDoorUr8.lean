/- The law's wakes of chapter 10: four known texts. -/
import Derived.Test.YtknfpggiigncpaaGreatDoorTr7
set_option linter.unusedVariables false
set_option linter.unusedSimpArgs false
namespace Go.Proofs.YtknfpggiigncpaaGreatDoor.T
open Go.RowKit Go.Proofs.YtknfpggiigncpaaGreatDoor.P Go.Proofs.YtknfpggiigncpaaGreatDoor.E Go.Proofs.YtknfpggiigncpaaGreatDoorW.PrintLast Go.Proofs.YtknfpggiigncpaaGreatDoorW.PrintMore
open Go.Proofs.YtknfpggiigncpaaGreatDoorW.PrintWords

def tt1 : ByteArray := ⟨#[60, 112, 58, 97, 32, 120, 109, 108, 110, 115, 58, 112, 61, 34, 117, 34, 32, 120, 61, 34, 49, 34, 62, 60, 112, 58, 98, 62, 116, 60, 47, 112, 58, 98, 62, 60, 47, 112, 58, 97, 62]⟩
def tt2 : ByteArray := ⟨#[60, 97, 62, 60, 98, 62, 60, 47, 97, 62, 60, 47, 98, 62]⟩
def tt3 : ByteArray := ⟨#[60, 97, 32, 120, 109, 108, 110, 115, 61, 34, 117, 34, 62, 60, 98, 32, 120, 109, 108, 110, 115, 61, 34, 118, 34, 47, 62, 60, 47, 97, 62]⟩
def tt4 : ByteArray := ⟨#[]⟩
theorem tt1_v : parseT tt1 = ⟨⟨#[117]⟩, ⟨⟨#[97]⟩, ⟨#[]⟩, [⟨⟨#[64, 120]⟩, ⟨#[49]⟩, []⟩, ⟨⟨#[98]⟩, ⟨#[116]⟩, []⟩]⟩, 41, 0⟩ := by kernel_rfl
theorem tt2_v : parseT tt2 = ⟨⟨#[]⟩, ⟨⟨#[]⟩, ⟨#[]⟩, []⟩, 6, 23⟩ := by kernel_rfl
theorem tt3_v : parseT tt3 = ⟨⟨#[]⟩, ⟨⟨#[]⟩, ⟨#[]⟩, []⟩, 13, 24⟩ := by kernel_rfl
theorem tt4_v : parseT tt4 = ⟨⟨#[]⟩, ⟨⟨#[]⟩, ⟨#[]⟩, []⟩, 0, 23⟩ := by kernel_rfl
theorem tt1_c (w : World) (hG : Glob w) : Calls Tryz.prog 36 #[.string tt1] w (TreePost w ⟨⟨#[117]⟩, ⟨⟨#[97]⟩, ⟨#[]⟩, [⟨⟨#[64, 120]⟩, ⟨#[49]⟩, []⟩, ⟨⟨#[98]⟩, ⟨#[116]⟩, []⟩]⟩, 41, 0⟩) := by
  have h := parse_any tt1 w (by decide) hG
  rw [tt1_v] at h
  exact h
theorem tt2_c (w : World) (hG : Glob w) : Calls Tryz.prog 36 #[.string tt2] w (TreePost w ⟨⟨#[]⟩, ⟨⟨#[]⟩, ⟨#[]⟩, []⟩, 6, 23⟩) := by
  have h := parse_any tt2 w (by decide) hG
  rw [tt2_v] at h
  exact h
theorem tt3_c (w : World) (hG : Glob w) : Calls Tryz.prog 36 #[.string tt3] w (TreePost w ⟨⟨#[]⟩, ⟨⟨#[]⟩, ⟨#[]⟩, []⟩, 13, 24⟩) := by
  have h := parse_any tt3 w (by decide) hG
  rw [tt3_v] at h
  exact h
theorem tt4_c (w : World) (hG : Glob w) : Calls Tryz.prog 36 #[.string tt4] w (TreePost w ⟨⟨#[]⟩, ⟨⟨#[]⟩, ⟨#[]⟩, []⟩, 0, 23⟩) := by
  have h := parse_any tt4 w (by decide) hG
  rw [tt4_v] at h
  exact h
set_option maxHeartbeats 4000000 in
set_option maxRecDepth 100000 in
theorem twakes_any (w : World) (hG : Glob w) : Calls Tryz.prog 35 #[] w fun e w' => e = .returned (.bool true) ∧ Below w.heap.size w w' := by
  have HG := Lib.hid hG
  clear hG
  go_enter Tryz.func35, Tryz.ntmps35
  go_wp2_with fail
  refine (tt1_c w HG.out).mono ?_
  rintro e w1 ⟨A1, c1, rfl, hc1, hC1, hb1⟩
  have hba1 := below_alloc (Below.refl w1.heap.size w1) (.cells #[.string ⟨#[97]⟩, .string ⟨#[]⟩, .slice A1 2 c1] 24)
  have hk1 := (MapKept.heap_alloc w1 (.cells #[.string ⟨#[97]⟩, .string ⟨#[]⟩, .slice A1 2 c1] 24)).1
  have HB2 := Lib.hid (hb1.trans (hba1.mono hb1.size))
  have HC2 := Lib.hid (Kd.C_below hC1 hba1)
  clear hC1 hb1 hba1
  dsimp only [List.length]
  go_wp2_with fail
  generalize w1.heap.size = ga at hk1 ⊢
  generalize w1.alloc _ = w2 at hk1 HB2 HC2 ⊢
  refine (tt2_c w2 (HG.out.below HB2.out)).mono ?_
  rintro e w3 ⟨A2, c2, rfl, hc2, hC2, hb3⟩
  have hba3 := below_alloc (Below.refl w3.heap.size w3) (.cells #[.string ⟨#[]⟩, .string ⟨#[]⟩, .slice A2 0 c2] 24)
  have hb34 := hb3.trans (hba3.mono hb3.size)
  have HB4 := Lib.hid (HB2.out.trans (hb34.mono HB2.out.size))
  have HC4 := Lib.hid (Kd.C_below HC2.out hb34)
  have hk4 := (hb34.block ga (Array.getElem?_eq_some_iff.1 hk1).1).trans hk1
  clear hC2 hb3 hba3 hb34 HB2 HC2 hk1
  dsimp only [List.length]
  go_wp2_with fail
  generalize w3.heap.size = gb
  generalize w3.alloc _ = w4 at hk4 HB4 HC4 ⊢
  refine (tt3_c w4 (HG.out.below HB4.out)).mono ?_
  rintro e w5 ⟨A3, c3, rfl, hc3, hC3, hb5⟩
  have hba5 := below_alloc (Below.refl w5.heap.size w5) (.cells #[.string ⟨#[]⟩, .string ⟨#[]⟩, .slice A3 0 c3] 24)
  have hb56 := hb5.trans (hba5.mono hb5.size)
  have HB6 := Lib.hid (HB4.out.trans (hb56.mono HB4.out.size))
  have HC6 := Lib.hid (Kd.C_below HC4.out hb56)
  have hk6 := (hb56.block ga (Array.getElem?_eq_some_iff.1 hk4).1).trans hk4
  clear hC3 hb5 hba5 hb56 HB4 HC4 hk4
  dsimp only [List.length]
  go_wp2_with fail
  generalize w5.heap.size = gc
  generalize w5.alloc _ = w6 at hk6 HB6 HC6 ⊢
  refine (tt4_c w6 (HG.out.below HB6.out)).mono ?_
  rintro e w7 ⟨A4, c4, rfl, hc4, hC4, hb7⟩
  have hba7 := below_alloc (Below.refl w7.heap.size w7) (.cells #[.string ⟨#[]⟩, .string ⟨#[]⟩, .slice A4 0 c4] 24)
  have hb78 := hb7.trans (hba7.mono hb7.size)
  have HB8 := Lib.hid (HB6.out.trans (hb78.mono HB6.out.size))
  have HC8 := Lib.hid (Kd.C_below HC6.out hb78)
  have hk8 := (hb78.block ga (Array.getElem?_eq_some_iff.1 hk6).1).trans hk6
  clear hC4 hb7 hba7 hb78 HB6 HC6 hk6
  obtain ⟨ad, B2, d2, e, hx0, hx1, hx2, hx3, hx4⟩ := at_T24 HC8.out 0 (by decide) (by decide)
  obtain ⟨ad', B3, d3, e', hy0, hy1, hy2, hy3, hy4⟩ := at_T24 HC8.out 1 (by decide) (by decide)
  cases e
  cases e'
  simp [rd_T24] at hx0 hy0 hy1
  replace hx0 : _ = _ := (congrArg _ (show ad = ad.add 0 from by cases ad; rfl)).trans hx0
  clear hx1 hx2 hx3 hx4 hy2 hy3 hy4
  have a0 := (cell_of_row _ _ 0 _ _ _ hk8).trans (show _ = some (Value.string ⟨#[97]⟩) from rfl)
  have a2 := (cell_of_row _ _ 2 _ _ _ hk8).trans (show _ = some (Value.slice (some ad) 2 c1) from rfl)
  clear hk8
  dsimp only [List.length]
  go_upto_region 5 with fail
  generalize w7.heap.size = gd
  generalize w7.alloc _ = w8 at a0 a2 hx0 hy0 hy1 HB8 ⊢
  have hy0' : w8.cell? ⟨ad.block, ad.off + 3, none⟩ = _ := hy0
  have hy1' : w8.cell? ⟨ad.block, ad.off + 3 + 1, none⟩ = _ := hy1
  go_wp2_with fail
  go_ret
  exact ⟨rfl, HB8.out⟩
end Go.Proofs.YtknfpggiigncpaaGreatDoor.T
