/- chapter 11's wakes, walked by hand. -/
import Derived.Test.YtknfpggiigncpaaGreatDoorOt18
set_option linter.unusedVariables false
set_option linter.unusedSimpArgs false
namespace Go.Proofs.YtknfpggiigncpaaGreatDoor.E
open Go.RowKit Go.Proofs.YtknfpggiigncpaaGreatDoor.P Go.Proofs.YtknfpggiigncpaaGreatDoorW.PrintLast Go.Proofs.YtknfpggiigncpaaGreatDoorW.PrintMore
open Go.Proofs.YtknfpggiigncpaaGreatDoorW.PrintWords

def kidA : S24 := ⟨⟨#[64, 120]⟩, ⟨#[49]⟩, []⟩
def kidB : S24 := ⟨⟨#[98]⟩, ⟨#[60]⟩, []⟩
def treeW : S24 := ⟨⟨#[97]⟩, ⟨#[]⟩, [kidA, kidB]⟩
def wokenL : List UInt8 := [60, 63, 120, 109, 108, 32, 118, 101, 114, 115, 105, 111, 110, 61, 34, 49, 46, 48, 34, 32, 101, 110, 99, 111, 100, 105, 110, 103, 61, 34, 85, 84, 70, 45, 56, 34, 63, 62, 10, 60, 97, 32, 120, 109, 108, 110, 115, 61, 34, 117, 34, 32, 120, 61, 34, 49, 34, 62, 60, 98, 62, 38, 108, 116, 59, 60, 47, 98, 62, 60, 47, 97, 62]
theorem may_treeW : mayP treeW = true := by decide +kernel
theorem may_none : mayP ⟨⟨#[]⟩, ⟨#[]⟩, []⟩ = false := by decide +kernel
theorem good_u : goodB [117] = true := by decide +kernel
theorem elem_treeW : headL ++ elemL treeW (spaceL [117]) = wokenL := by
  simp only [elemL, treeW, innerL, kidA, kidB]
  decide +kernel
theorem write_treeW : writeT ⟨#[117]⟩ treeW = (⟨wokenL.toArray⟩, 0) := by
  unfold writeT
  have h1 : (⟨#[117]⟩ : ByteArray).size = 1 := rfl
  have h2 : (⟨#[117]⟩ : ByteArray).data.toList = [117] := rfl
  rw [h1, h2, if_neg (by rw [good_u, may_treeW]; simp), elem_treeW, if_neg (by decide)]
theorem write_noneW : writeT ⟨#[]⟩ treeW = (⟨#[]⟩, 1) := by
  unfold writeT
  rw [if_pos (.inl rfl)]
theorem small_treeW : treeW.f0.size + treeW.f1.size < 2000 ∧ smallL treeW.f2 ∧ cntL treeW.f2 ≤ 1000 := by
  refine ⟨by decide, ?_, ?_⟩
  · simp only [treeW, kidA, kidB, smallL]
    decide
  · simp only [treeW, kidA, kidB, cntL]
    decide
theorem row_two (w : World) (g : Nat) (t : TypeId) (x y : S24) (hx : x.f2 = []) (hy : y.f2 = []) (hg : w.heap[g]? = some (.cells #[.string x.f0, .string x.f1, .slice none 0 0, .string y.f0, .string y.f1, .slice none 0 0] t (0, 0))) :
    k24.C w (some ⟨g, 0, none⟩) 2 [x, y] := by
  have hc : ∀ i, w.cell? ⟨g, i, none⟩ = (#[.string x.f0, .string x.f1, .slice none 0 0, .string y.f0, .string y.f1, .slice none 0 0] : Array Value)[i]? := fun i => cell_of_row _ _ _ _ _ _ hg
  refine ⟨rfl, by omega, fun _ => ⟨_, rfl, fun j p hj => ?_⟩⟩
  match j, hj with
  | 0, hj =>
    obtain rfl : x = p := Option.some.inj hj
    refine ⟨[.string x.f0, .string x.f1, .slice none x.f2.length 0], rfl, k24_mk w x (by rw [hx]; exact Nat.le_refl _) (by rw [hx]; exact C_nil _ _ _), fun i u hu => ?_⟩
    rw [hx] at hu
    rw [show (0 * k24.sz + i) = i by omega]
    match i, hu with
    | 0, hu => cases hu; exact hc 0
    | 1, hu => cases hu; exact hc 1
    | 2, hu => cases hu; exact hc 2
  | 1, hj =>
    obtain rfl : y = p := Option.some.inj hj
    refine ⟨[.string y.f0, .string y.f1, .slice none y.f2.length 0], rfl, k24_mk w y (by rw [hy]; exact Nat.le_refl _) (by rw [hy]; exact C_nil _ _ _), fun i u hu => ?_⟩
    rw [hy] at hu
    rw [show (1 * k24.sz + i) = 3 + i by show 1 * 3 + i = 3 + i; omega]
    match i, hu with
    | 0, hu => cases hu; exact hc 3
    | 1, hu => cases hu; exact hc 4
    | 2, hu => cases hu; exact hc 5
theorem row_one (w : World) (g : Nat) (t : TypeId) (x : S24) (A : Option Addr) (c : Nat) (hl : x.f2.length ≤ c) (hC : k24.C w A x.f2.length x.f2) (hg : w.heap[g]? = some (.cells #[.string x.f0, .string x.f1, .slice A x.f2.length c] t (0, 0))) :
    k24.C w (some ⟨g, 0, none⟩) 1 [x] := by
  have hc : ∀ i, w.cell? ⟨g, i, none⟩ = (#[.string x.f0, .string x.f1, .slice A x.f2.length c] : Array Value)[i]? := fun i => cell_of_row _ _ _ _ _ _ hg
  refine ⟨rfl, by omega, fun _ => ⟨_, rfl, fun j p hj => ?_⟩⟩
  match j, hj with
  | 0, hj =>
    obtain rfl : x = p := Option.some.inj hj
    refine ⟨[.string x.f0, .string x.f1, .slice A x.f2.length c], rfl, k24_mk w x hl hC, fun i u hu => ?_⟩
    rw [show (0 * k24.sz + i) = i by omega]
    match i, hu with
    | 0, hu => cases hu; exact hc 0
    | 1, hu => cases hu; exact hc 1
    | 2, hu => cases hu; exact hc 2
/-- The box of a part lies, and what lay lies. -/
def T1 (w0 : World) (g : Nat) (v : S24) (A : Option Addr) (c : Nat) (W : World) : Prop := Below w0.heap.size w0 W ∧ Bv W g v A c ∧ Glob W ∧ k24.C W A v.f2.length v.f2
theorem T1.step {w0 : World} {g : Nat} {v : S24} {A : Option Addr} {c : Nat} {W W' : World} (h : T1 w0 g v A c W) (hb : Below W.heap.size W W') : T1 w0 g v A c W' :=
  ⟨h.1.trans (hb.mono h.1.size), (hb.block g (Array.getElem?_eq_some_iff.1 h.2.1).1).trans h.2.1, h.2.2.1.below hb, Kd.C_below h.2.2.2 hb⟩
set_option maxHeartbeats 8000000 in
set_option maxRecDepth 100000 in
theorem wakes_any (w : World) (hG : Glob w) : Calls Tryz.prog 14 #[] w fun e w' => e = .returned (.bool true) ∧ Below w.heap.size w w' := by
  have hu24 := Tryz.underlying24
  have hb1 := below_alloc (below_alloc (Below.refl w.heap.size w) (.cells #[.string ⟨#[64, 120]⟩, .string ⟨#[49]⟩, .slice none 0 0, .string ⟨#[98]⟩, .string ⟨#[60]⟩, .slice none 0 0] 24)) (.cells #[.string ⟨#[97]⟩, .string ⟨#[]⟩, .slice (some ⟨w.heap.size, 0, none⟩) 2 2] 24)
  have hC0 : k24.C (w.alloc (.cells #[.string ⟨#[64, 120]⟩, .string ⟨#[49]⟩, .slice none 0 0, .string ⟨#[98]⟩, .string ⟨#[60]⟩, .slice none 0 0] 24)) (some ⟨w.heap.size, 0, none⟩) 2 [kidA, kidB] := row_two _ _ _ kidA kidB rfl rfl (cells_al _ _ _)
  have HT := Lib.hid (show T1 w (w.heap.size + 1) treeW (some ⟨w.heap.size, 0, none⟩) 2 _ from ⟨hb1, by have := cells_al (w.alloc (.cells #[.string ⟨#[64, 120]⟩, .string ⟨#[49]⟩, .slice none 0 0, .string ⟨#[98]⟩, .string ⟨#[60]⟩, .slice none 0 0] 24)) #[.string ⟨#[97]⟩, .string ⟨#[]⟩, .slice (some ⟨w.heap.size, 0, none⟩) 2 2] 24; rw [World.size_alloc] at this; exact this, hG.below hb1, Kd.C_below hC0 (below_alloc (Below.refl _ _) _)⟩)
  obtain ⟨s1, s2, s3⟩ := small_treeW
  have HS2 := Lib.hid s2
  clear hG hb1 hC0 s2
  go_enter Tryz.func14, Tryz.ntmps14
  go_wp2_with fail
  refine (write_any ⟨#[117]⟩ treeW (some ⟨w.heap.size, 0, none⟩) 2 _ (by decide) HT.out.2.2.2 (Nat.le_refl _) HT.out.2.2.1 s1 HS2.out s3).mono ?_
  rintro e w2 ⟨rfl, hb2⟩
  rw [write_treeW]
  unfold wokenL
  have HT2 := Lib.hid (HT.out.step hb2)
  clear hb2 HT
  obtain ⟨c0, c1, c2⟩ := HT2.out.2.1.cells
  have d0 : w2.cell? ⟨w.heap.size + 1, 0, none⟩ = some (.string ⟨#[97]⟩) := c0
  have d1 : w2.cell? ⟨w.heap.size + 1, 1, none⟩ = some (.string ⟨#[]⟩) := c1
  have d2 : w2.cell? ⟨w.heap.size + 1, 2, none⟩ = some (.slice (some ⟨w.heap.size, 0, none⟩) 2 2) := c2
  clear c0 c1 c2
  go_wp2_with fail
  refine (write_any ⟨#[]⟩ treeW (some ⟨w.heap.size, 0, none⟩) 2 _ (by decide) HT2.out.2.2.2 (Nat.le_refl _) HT2.out.2.2.1 s1 HS2.out s3).mono ?_
  rintro e w3 ⟨rfl, hb3⟩
  rw [write_noneW]
  have HT3 := Lib.hid (HT2.out.step hb3)
  clear hb3 HT2 d0 d1 d2
  obtain ⟨c0, c1, c2⟩ := HT3.out.2.1.cells
  have d0 : w3.cell? ⟨w.heap.size + 1, 0, none⟩ = some (.string ⟨#[97]⟩) := c0
  have d1 : w3.cell? ⟨w.heap.size + 1, 1, none⟩ = some (.string ⟨#[]⟩) := c1
  have d2 : w3.cell? ⟨w.heap.size + 1, 2, none⟩ = some (.slice (some ⟨w.heap.size, 0, none⟩) 2 2) := c2
  clear c0 c1 c2
  go_wp2_with fail
  refine (may_any treeW (some ⟨w.heap.size, 0, none⟩) 2 _ HT3.out.2.2.2 (Nat.le_refl _) HT3.out.2.2.1 (smallT_of 65 treeW s1 HS2.out s3) s3).mono ?_
  rintro e w4 ⟨rfl, hb4⟩
  rw [may_treeW]
  have HT4 := Lib.hid (HT3.out.step hb4)
  clear hb4 HT3 d0 d1 d2
  go_wp2_with fail
  refine (may_any ⟨⟨#[]⟩, ⟨#[]⟩, []⟩ none 0 _ (C_nil _ _ _) (Nat.le_refl _) HT4.out.2.2.1 (smallT_of 65 _ (by decide) (by simp [smallL]) (by simp [cntL])) (by simp [cntL])).mono ?_
  rintro e w5 ⟨rfl, hb5⟩
  rw [may_none]
  have HT5 := Lib.hid (HT4.out.step hb5)
  clear hb5 HT4
  go_wp2_with fail
  go_ret
  exact ⟨rfl, HT5.out.1⟩
end Go.Proofs.YtknfpggiigncpaaGreatDoor.E
