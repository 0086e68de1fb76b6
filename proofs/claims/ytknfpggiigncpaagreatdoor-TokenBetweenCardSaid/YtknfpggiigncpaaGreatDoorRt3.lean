/- The law's wakes: three known texts. -/
import Derived.Test.YtknfpggiigncpaaGreatDoorXTok10
import Derived.Test.YtknfpggiigncpaaGreatDoorXCheck
import Derived.Test.YtknfpggiigncpaaGreatDoorXBlank
import Derived.Test.YtknfpggiigncpaaGreatDoorXUnesc
import Derived.Test.YtknfpggiigncpaaGreatDoorXOnce
set_option linter.unusedVariables false
set_option linter.unusedSimpArgs false
namespace Go.Proofs.YtknfpggiigncpaaGreatDoor.C
open Go.RowKit Go.Proofs.YtknfpggiigncpaaGreatDoor.P Go.Proofs.YtknfpggiigncpaaGreatDoorW.PrintWords Go.Proofs.YtknfpggiigncpaaGreatDoorW.PrintLast Go.Proofs.YtknfpggiigncpaaGreatDoorW.PrintMore

def wk1 : ByteArray := ⟨#[60, 97, 32, 98, 61, 34, 49, 38, 97, 109, 112, 59, 50, 34, 47, 62]⟩
def wk2 : ByteArray := ⟨#[60, 97, 62, 120, 60, 33, 45, 45, 32, 121, 32, 45, 45, 62, 122, 60, 47, 97, 62]⟩
def wk3 : ByteArray := ⟨#[60, 33, 68, 79, 67, 84, 89, 80, 69, 32, 97, 62]⟩
theorem wk1_f : token_Tokens.f wk1 = some ([⟨1, ⟨#[97]⟩, ⟨#[]⟩, [⟨⟨#[98]⟩, ⟨#[49, 38, 50]⟩⟩], true, 0⟩], 16, 0) := by kernel_rfl
theorem wk2_f : token_Tokens.f wk2 = some ([⟨1, ⟨#[97]⟩, ⟨#[]⟩, [], false, 0⟩, ⟨3, ⟨#[]⟩, ⟨#[120]⟩, [], false, 3⟩, ⟨3, ⟨#[]⟩, ⟨#[122]⟩, [], false, 14⟩, ⟨2, ⟨#[97]⟩, ⟨#[]⟩, [], false, 15⟩], 19, 0) := by kernel_rfl
theorem wk3_f : token_Tokens.f wk3 = some ([], 1, 21) := by kernel_rfl
theorem add_field0 (a : Addr) (k : Nat) : (⟨(a.add 0).block, (a.add 0).off + k, none⟩ : Addr) = ⟨a.block, a.off + k, none⟩ := by
  have : a.add 0 = a := by cases a; rfl
  rw [this]
set_option maxHeartbeats 4000000 in
set_option maxRecDepth 100000 in
theorem wakes_any (w : World) (hG : Glob w) : Calls Tryz.prog 21 #[] w fun e w' => e = .returned (.bool true) ∧ Below w.heap.size w w' := by
  go_enter Tryz.func21, Tryz.ntmps21
  go_wp2_with fail
  have HB := Aside0.mk (Below.refl w.heap.size w)
  refine (token_Tokens.calls wk1 _ _ _ _ wk1_f (hG.below (by repeat (first | exact HB.out | apply pw_below_drewN | apply below_drew1)))).mono ?_
  rintro e w1 ⟨v1, rfl, hS1, hb1⟩
  replace HB := Aside0.mk (below_step (by repeat (first | exact HB.out | apply pw_below_drewN | apply below_drew1)) hb1)
  obtain ⟨A1, c1, rfl, hc1, hC1⟩ := Kd.S_reads hS1
  clear hS1 hb1
  have HC1 := Lib.hid hC1
  clear hC1
  go_wp2_with fail
  refine (token_Tokens.calls wk2 _ _ _ _ wk2_f (hG.below (by repeat (first | exact HB.out | apply pw_below_drewN | apply below_drew1)))).mono ?_
  rintro e w2 ⟨v2, rfl, hS2, hb2⟩
  replace HB := Aside0.mk (below_step (by repeat (first | exact HB.out | apply pw_below_drewN | apply below_drew1)) hb2)
  obtain ⟨A2, c2, rfl, hc2, hC2⟩ := Kd.S_reads hS2
  have hb12 : Below w1.heap.size w1 w2 := below_step (by repeat (first | exact Below.refl _ _ | apply pw_below_drewN | apply below_drew1)) hb2
  clear hS2 hb2
  have HC2 := Lib.hid hC2
  clear hC2
  go_wp2_with fail
  refine (token_Tokens.calls wk3 _ _ _ _ wk3_f (hG.below (by repeat (first | exact HB.out | apply pw_below_drewN | apply below_drew1)))).mono ?_
  rintro e w3 ⟨v3, rfl, hS3, hb3⟩
  replace HB := Aside0.mk (below_step (by repeat (first | exact HB.out | apply pw_below_drewN | apply below_drew1)) hb3)
  obtain ⟨A3, c3, rfl, hc3, hC3⟩ := Kd.S_reads hS3
  have hb23 : Below w2.heap.size w2 w3 := below_step (by repeat (first | exact Below.refl _ _ | apply pw_below_drewN | apply below_drew1)) hb3
  clear hS3 hb3 hC3
  have hb13 := hb12.trans (hb23.mono hb12.size)
  obtain ⟨ad1, A13, c13, e, hx0, hx1, hx2, hx3, hx4, hx5, hl, hi⟩ := at_T44 HC1.out 0 (by decide) (by decide)
  cases e
  obtain ⟨ae, e, hy0, hy1⟩ := at_T77 hi 0 (by decide) (by decide)
  rw [e] at hx3
  obtain ⟨ad2, A23, c23, e, hz0, hz1, hz2, hz3, hz4, hz5, hm, hj⟩ := at_T44 HC2.out 2 (by decide) (by decide)
  obtain ⟨ad3, A33, c33, f, hu0, hu1, hu2, hu3, hu4, hu5, hm', hj'⟩ := at_T44 HC2.out 3 (by decide) (by decide)
  cases e
  cases f
  replace hx3 := (hb13.cell (World.block_lt_of_cell? w1 _ hx3)).trans hx3
  replace hx4 := (hb13.cell (World.block_lt_of_cell? w1 _ hx4)).trans hx4
  replace hy1 := (hb13.cell (World.block_lt_of_cell? w1 _ hy1)).trans hy1
  replace hz2 := (hb23.cell (World.block_lt_of_cell? w2 _ hz2)).trans hz2
  replace hu0 := (hb23.cell (World.block_lt_of_cell? w2 _ hu0)).trans hu0
  simp [rd_T44, rd_T77] at hx3 hx4 hy1 hz2 hu0
  replace hx3 : w3.cell? ⟨ad1.block, ad1.off + 3, none⟩ = _ := (congrArg w3.cell? (add_field0 ad1 3)).symm.trans hx3
  replace hx4 : w3.cell? ⟨ad1.block, ad1.off + 4, none⟩ = _ := (congrArg w3.cell? (add_field0 ad1 4)).symm.trans hx4
  replace hy1 : w3.cell? ⟨ae.block, ae.off + 1, none⟩ = _ := (congrArg w3.cell? (add_field0 ae 1)).symm.trans hy1
  have hz2' : w3.cell? ⟨ad2.block, ad2.off + 12 + 2, none⟩ = _ := hz2
  have hu0' : w3.cell? ⟨ad2.block, ad2.off + 18, none⟩ = _ := hu0
  clear hx0 hx1 hx2 hx5 hy0 hz0 hz1 hz3 hz4 hz5 hm hj hu1 hu2 hu3 hu4 hu5 hm' hj' hi hl e
  go_wp2_with fail
  go_ret
  exact ⟨rfl, by repeat (first | exact HB.out | apply pw_below_drewN | apply below_drew1)⟩
end Go.Proofs.YtknfpggiigncpaaGreatDoor.C
