/- A region that draws its order, whose first two operations are forced (a slot, then a call that may write), and whose other operations read alone: one walk serves every order. Condition: the closed facts on its edges. -/
import Derived.Test.YtknfpggiigncpaaGreatDoorOt16
import Derived.Test.YtknfpggiigncpaaGreatDoorAx1
import Derived.Test.YtknfpggiigncpaaGreatDoorXCheck
import Derived.Test.YtknfpggiigncpaaGreatDoorXRune
import Derived.Test.YtknfpggiigncpaaGreatDoorXUnesc
import Derived.Test.YtknfpggiigncpaaGreatDoorXOnce
import Derived.Deep.Quiet
import Derived.Deep.QuietTactic
import Derived.RegionTactic
set_option maxHeartbeats 8000000
set_option maxRecDepth 100000
set_option linter.unusedVariables false
set_option linter.unusedSimpArgs false
section
namespace Go.Proofs.YtknfpggiigncpaaGreatDoor.E
open Go.RowKit P YtknfpggiigncpaaGreatDoorW.PrintLast YtknfpggiigncpaaGreatDoorW.PrintMore
open YtknfpggiigncpaaGreatDoorW.PrintWords
theorem elemL_le (space : ByteArray) (v : S24) (h0 : space.size ≤ 200) (h1 : v.f0.size + v.f1.size < 2000) (h2 : smallL v.f2) (h3 : cntL v.f2 ≤ 1000) : (elemL v (spaceL space.data.toList)).length ≤ 100000000 := by
 have hes := escL_len space.data.toList
 have hsp := B.sz_list space
 have hpl := parts_len v.f2 h2
 have h5 := B.sz_list v.f0
 have h6 := B.sz_list v.f1
 have h7 := escL_len v.f1.data.toList
 simp only [elemL, formL, spaceL, List.length_append, List.length_cons, List.length_nil]
 omega
theorem write_any (space : ByteArray) (v : S24) (A : Option Addr) (c : Nat) (w : World) (h0 : space.size ≤ 200) (hr : k24.C w A v.f2.length v.f2) (hc : v.f2.length ≤ c) (hG : Glob w) (h1 : v.f0.size + v.f1.size < 2000) (h2 : smallL v.f2) (h3 : cntL v.f2 ≤ 1000) :
  Calls Tryz.prog 18 #[.string space, .agg #[.string v.f0, .string v.f1, .slice A v.f2.length c]] w fun e w' => e = .returned (.tuple #[.string (writeT space v).1, .int .i64 (writeT space v).2]) ∧ Below w.heap.size w w' := by
 have hu24 := Tryz.underlying24
 have HL := elemL_le space v h0 h1 h2 h3
 have HS5 := Lib.hid (smallT_of 65 v h1 h2 h3)
 have HS4 := Lib.hid (smallT_of 64 v h1 h2 h3)
 have HR := Lib.hid hr
 have HG := Lib.hid hG
 have HB1 := Lib.hid (below_alloc (Below.refl w.heap.size w) (.cells #[.string v.f0, .string v.f1, .slice A v.f2.length c] 24))
 have hbv : Bv (w.alloc (.cells #[.string v.f0, .string v.f1, .slice A v.f2.length c] 24)) w.heap.size v A c := cells_al _ _ _
 clear hr hG h2
 go_enter Tryz.func18, Tryz.ntmps18
 by_cases hz : space.size = 0
 ·
  have e3 : space.toList.isEmpty = true := by
   rw [B.toL, List.length_eq_zero_iff.1 (show space.data.toList.length = 0 by rw [← B.sz_list]; exact hz)]
   rfl
  have hw : writeT space v = (⟨#[]⟩, 1) := by unfold writeT; rw [if_pos (.inl hz)]
  go_wp2_with fail
  go_ret2
  exact ⟨by rw [hw]; rfl, HB1.out⟩
 have e3 : space.toList.isEmpty = false := by
  rw [B.toL]
  cases h : space.data.toList with
  | nil => exact absurd (by rw [B.sz_list, h]; rfl) hz
  | cons x y => rfl
 obtain ⟨c0, c1, c2⟩ := hbv.cells
 go_wp2_with fail
 refine (good46 space _ (by omega) (HG.out.below HB1.out)).mono ?_
 rintro e w2 ⟨rfl, hb2⟩
 have hbv2 : Bv w2 w.heap.size v A c := (hb2.block _ (Array.getElem?_eq_some_iff.1 hbv).1).trans hbv
 have HB2 := Lib.hid (HB1.out.trans (hb2.mono HB1.out.size))
 clear hb2 hbv c0 c1 c2 HB1
 obtain ⟨c0, c1, c2⟩ := hbv2.cells
 cases hg : goodB space.data.toList with
 | false =>
  have hw : writeT space v = (⟨#[]⟩, 1) := by unfold writeT; rw [if_pos (.inr (.inl hg))]
  go_wp2_with fail
  go_ret2
  exact ⟨by rw [hw]; rfl, HB2.out⟩
 | true =>
  go_wp2_with fail
  refine (may_any v A c _ (Kd.C_below HR.out HB2.out) hc (HG.out.below HB2.out) HS5.out h3).mono ?_
  rintro e w3 ⟨rfl, hb3⟩
  have hbv3 : Bv w3 w.heap.size v A c := (hb3.block _ (Array.getElem?_eq_some_iff.1 hbv2).1).trans hbv2
  have HB3 := Lib.hid (HB2.out.trans (hb3.mono HB2.out.size))
  clear hb3 hbv2 c0 c1 c2 HB2
  cases hm : mayP v with
  | false =>
   have hw : writeT space v = (⟨#[]⟩, 1) := by unfold writeT; rw [if_pos (.inr (.inr hm))]
   go_wp2_with fail
   go_ret2
   exact ⟨by rw [hw]; rfl, HB3.out⟩
  | true =>
   obtain ⟨hat, hall⟩ : attrB v = false ∧ allN 64 v = true := by
    unfold mayP at hm
    simpa using hm
   have hw : writeT space v = if 1048576 < (headL ++ elemL v (spaceL space.data.toList)).length then (⟨#[]⟩, 3) else (⟨(headL ++ elemL v (spaceL space.data.toList)).toArray⟩, 0) := by
    unfold writeT; rw [if_neg (by rw [hg, hm]; simp [hz])]
   have hB0 : Lib.IsBuilderF 65 5 w3.heap.size w3.heap.size (Lib.byteCells []) (w3.alloc (.cells #[.pointer none, .slice none 0 0] 65)) := Lib.IsBuilderF.of (Lib.fresh_isBuilder 65 5 w3)
   have HG3 := Lib.hid (HG.out.below HB3.out)
   have HC3 := Lib.hid (Kd.C_below HR.out HB3.out)
   have hb0 := below_alloc (Below.refl w3.heap.size w3) (.cells #[.pointer none, .slice none 0 0] 65)
   have HB0 := Lib.hid hB0
   have Hb0 := Lib.hid hb0
   clear hB0 hb0
   obtain ⟨c0, c1, c2⟩ := hbv3.cells
   go_wp2_with fail
   refine (put_calls w3.heap.size w3.heap.size [] _ _ HB0.out (by show 0 + 39 ≤ _; omega) Hb0.out.size).mono ?_
   rintro e w4 ⟨rfl, q1, q2, q3⟩
   have hbv4 : Bv w4 w.heap.size v A c := (q2.block _ (Array.getElem?_eq_some_iff.1 hbv3).1).trans ((Hb0.out.block _ (Array.getElem?_eq_some_iff.1 hbv3).1).trans hbv3)
   have HQ1 := Lib.hid q1
   have HQ2 := Lib.hid (Hb0.out.trans q2)
   clear q1 q2 q3 c0 c1 c2 hbv3
   obtain ⟨c0, c1, c2⟩ := hbv4.cells
   have hsp : spOf space = spaceL space.data.toList := by unfold spOf; rw [if_neg hz]
   go_wp2_with fail
   refine (elem_any w3 HG3.out w3.heap.size 64 v A c space _ w4 hall hat HS4.out (by omega) HC3.out hc HQ1.out HQ2.out (by rw [hsp]; show 0 + 39 + _ ≤ _; omega)).mono ?_
   rintro e w5 ⟨⟨rx, rfl⟩, q1, q2, q3⟩
   rw [hsp] at q1
   have HQ5 := Lib.hid q1
   have HB5 := Lib.hid (HQ2.out.trans q2)
   clear q1 q2 q3 c0 c1 c2
   obtain ⟨bs, hbs⟩ : ∃ bs, headL ++ elemL v (spaceL space.data.toList) = bs := ⟨_, rfl⟩
   have HQ6 : Hid (Lib.IsBuilderF 65 5 w3.heap.size w3.heap.size (Lib.byteCells bs) w5) := by rw [← hbs]; exact HQ5.out
   clear HQ5
   rw [hbs] at hw
   have hbl : (Lib.byteCells bs).length = bs.length := by simp [Lib.byteCells]
   go_wp2_with fail
   refine (Tryz.Builder_Len_f w3.heap.size w3.heap.size _ w5 HQ6.out).mono ?_
   rintro e w6 ⟨rfl, rfl⟩
   rw [hbl]
   by_cases hlen : 1048576 < bs.length
   ·
    have hd : decide ((1048576 : Int) < (bs.length : Int)) = true := decide_eq_true (by omega)
    rw [if_pos hlen] at hw
    go_wp2_with fail
    go_ret2
    exact ⟨by rw [hw]; rfl, HB3.out.trans (HB5.out.mono HB3.out.size)⟩
   ·
    have hd : decide ((1048576 : Int) < (bs.length : Int)) = false := decide_eq_false (by omega)
    rw [if_neg hlen] at hw
    go_wp2_with fail
    refine (Tryz.Builder_String_any_k _ _ _ _ HQ6.out HB5.out.size).mono ?_
    rintro e w7 ⟨rfl, -, hb7, -⟩
    go_wp2_with fail
    go_ret2
    exact ⟨by rw [hw]; rfl, HB3.out.trans ((HB5.out.trans hb7).mono HB3.out.size)⟩
def kidA : S24 := ⟨⟨#[64, 120]⟩, ⟨#[49]⟩, []⟩
def kidB : S24 := ⟨⟨#[98]⟩, ⟨#[60]⟩, []⟩
def treeW : S24 := ⟨⟨#[97]⟩, ⟨#[]⟩, [kidA, kidB]⟩
def wokenL : List UInt8 := [60, 63, 120, 109, 108, 32, 118, 101, 114, 115, 105, 111, 110, 61, 34, 49, 46, 48, 34, 32, 101, 110, 99, 111, 100, 105, 110, 103, 61, 34, 85, 84, 70, 45, 56, 34, 63, 62, 10, 60, 97, 32, 120, 109, 108, 110, 115, 61, 34, 117, 34, 32, 120, 61, 34, 49, 34, 62, 60, 98, 62, 38, 108, 116, 59, 60, 47, 98, 62, 60, 47, 97, 62]
theorem may_treeW : mayP treeW = true := by decide +kernel
theorem may_none : mayP ⟨⟨#[]⟩, ⟨#[]⟩, []⟩ = false := by decide +kernel
theorem good_u : goodB [117] = true := by decide +kernel
theorem elem_treeW : headL ++ elemL treeW (spaceL [117]) = wokenL := by
 simp only [elemL, treeW, innerL, kidA, kidB]
 decide +kernel
theorem write_treeW : writeT ⟨#[117]⟩ treeW = (⟨wokenL.toArray⟩, 0) := by
 unfold writeT
 have h1 : (⟨#[117]⟩ : ByteArray).size = 1 := rfl
 have h2 : (⟨#[117]⟩ : ByteArray).data.toList = [117] := rfl
 rw [h1, h2, if_neg (by rw [good_u, may_treeW]; simp), elem_treeW, if_neg (by decide)]
theorem write_noneW : writeT ⟨#[]⟩ treeW = (⟨#[]⟩, 1) := by
 unfold writeT
 rw [if_pos (.inl rfl)]
theorem small_treeW : treeW.f0.size + treeW.f1.size < 2000 ∧ smallL treeW.f2 ∧ cntL treeW.f2 ≤ 1000 := by
 refine ⟨by decide, ?_, ?_⟩
 ·
  simp only [treeW, kidA, kidB, smallL]
  decide
 ·
  simp only [treeW, kidA, kidB, cntL]
  decide
theorem row_two (w : World) (g : Nat) (t : TypeId) (x y : S24) (hx : x.f2 = []) (hy : y.f2 = []) (hg : w.heap[g]? = some (.cells #[.string x.f0, .string x.f1, .slice none 0 0, .string y.f0, .string y.f1, .slice none 0 0] t (0, 0))) :
  k24.C w (some ⟨g, 0, none⟩) 2 [x, y] := by
 have hc : ∀ i, w.cell? ⟨g, i, none⟩ = (#[.string x.f0, .string x.f1, .slice none 0 0, .string y.f0, .string y.f1, .slice none 0 0] : Array Value)[i]? := fun i => cell_of_row _ _ _ _ _ _ hg
 refine ⟨rfl, by omega, fun _ => ⟨_, rfl, fun j p hj => ?_⟩⟩
 match j, hj with
 | 0, hj =>
  obtain rfl : x = p := Option.some.inj hj
  refine ⟨[.string x.f0, .string x.f1, .slice none x.f2.length 0], rfl, k24_mk w x (by rw [hx]; exact Nat.le_refl _) (by rw [hx]; exact C_nil _ _ _), fun i u hu => ?_⟩
  rw [hx] at hu
  rw [show (0 * k24.sz + i) = i by omega]
  match i, hu with
  | 0, hu => cases hu; exact hc 0
  | 1, hu => cases hu; exact hc 1
  | 2, hu => cases hu; exact hc 2
 | 1, hj =>
  obtain rfl : y = p := Option.some.inj hj
  refine ⟨[.string y.f0, .string y.f1, .slice none y.f2.length 0], rfl, k24_mk w y (by rw [hy]; exact Nat.le_refl _) (by rw [hy]; exact C_nil _ _ _), fun i u hu => ?_⟩
  rw [hy] at hu
  rw [show (1 * k24.sz + i) = 3 + i by show 1 * 3 + i = 3 + i; omega]
  match i, hu with
  | 0, hu => cases hu; exact hc 3
  | 1, hu => cases hu; exact hc 4
  | 2, hu => cases hu; exact hc 5
def T1 (w0 : World) (g : Nat) (v : S24) (A : Option Addr) (c : Nat) (W : World) : Prop := Below w0.heap.size w0 W ∧ Bv W g v A c ∧ Glob W ∧ k24.C W A v.f2.length v.f2
theorem T1.step {w0 : World} {g : Nat} {v : S24} {A : Option Addr} {c : Nat} {W W' : World} (h : T1 w0 g v A c W) (hb : Below W.heap.size W W') : T1 w0 g v A c W' :=
 ⟨h.1.trans (hb.mono h.1.size), (hb.block g (Array.getElem?_eq_some_iff.1 h.2.1).1).trans h.2.1, h.2.2.1.below hb, Kd.C_below h.2.2.2 hb⟩
theorem wakes_any (w : World) (hG : Glob w) : Calls Tryz.prog 14 #[] w fun e w' => e = .returned (.bool true) ∧ Below w.heap.size w w' := by
 have hu24 := Tryz.underlying24
 have hb1 := below_alloc (below_alloc (Below.refl w.heap.size w) (.cells #[.string ⟨#[64, 120]⟩, .string ⟨#[49]⟩, .slice none 0 0, .string ⟨#[98]⟩, .string ⟨#[60]⟩, .slice none 0 0] 24)) (.cells #[.string ⟨#[97]⟩, .string ⟨#[]⟩, .slice (some ⟨w.heap.size, 0, none⟩) 2 2] 24)
 have hC0 : k24.C (w.alloc (.cells #[.string ⟨#[64, 120]⟩, .string ⟨#[49]⟩, .slice none 0 0, .string ⟨#[98]⟩, .string ⟨#[60]⟩, .slice none 0 0] 24)) (some ⟨w.heap.size, 0, none⟩) 2 [kidA, kidB] := row_two _ _ _ kidA kidB rfl rfl (cells_al _ _ _)
 have HT := Lib.hid (show T1 w (w.heap.size + 1) treeW (some ⟨w.heap.size, 0, none⟩) 2 _ from ⟨hb1, by have := cells_al (w.alloc (.cells #[.string ⟨#[64, 120]⟩, .string ⟨#[49]⟩, .slice none 0 0, .string ⟨#[98]⟩, .string ⟨#[60]⟩, .slice none 0 0] 24)) #[.string ⟨#[97]⟩, .string ⟨#[]⟩, .slice (some ⟨w.heap.size, 0, none⟩) 2 2] 24; rw [World.size_alloc] at this; exact this, hG.below hb1, Kd.C_below hC0 (below_alloc (Below.refl _ _) _)⟩)
 obtain ⟨s1, s2, s3⟩ := small_treeW
 have HS2 := Lib.hid s2
 clear hG hb1 hC0 s2
 go_enter Tryz.func14, Tryz.ntmps14
 go_wp2_with fail
 refine (write_any ⟨#[117]⟩ treeW (some ⟨w.heap.size, 0, none⟩) 2 _ (by decide) HT.out.2.2.2 (Nat.le_refl _) HT.out.2.2.1 s1 HS2.out s3).mono ?_
 rintro e w2 ⟨rfl, hb2⟩
 rw [write_treeW]
 unfold wokenL
 have HT2 := Lib.hid (HT.out.step hb2)
 clear hb2 HT
 obtain ⟨c0, c1, c2⟩ := HT2.out.2.1.cells
 have d0 : w2.cell? ⟨w.heap.size + 1, 0, none⟩ = some (.string ⟨#[97]⟩) := c0
 have d1 : w2.cell? ⟨w.heap.size + 1, 1, none⟩ = some (.string ⟨#[]⟩) := c1
 have d2 : w2.cell? ⟨w.heap.size + 1, 2, none⟩ = some (.slice (some ⟨w.heap.size, 0, none⟩) 2 2) := c2
 clear c0 c1 c2
 go_wp2_with fail
 refine (write_any ⟨#[]⟩ treeW (some ⟨w.heap.size, 0, none⟩) 2 _ (by decide) HT2.out.2.2.2 (Nat.le_refl _) HT2.out.2.2.1 s1 HS2.out s3).mono ?_
 rintro e w3 ⟨rfl, hb3⟩
 rw [write_noneW]
 have HT3 := Lib.hid (HT2.out.step hb3)
 clear hb3 HT2 d0 d1 d2
 obtain ⟨c0, c1, c2⟩ := HT3.out.2.1.cells
 have d0 : w3.cell? ⟨w.heap.size + 1, 0, none⟩ = some (.string ⟨#[97]⟩) := c0
 have d1 : w3.cell? ⟨w.heap.size + 1, 1, none⟩ = some (.string ⟨#[]⟩) := c1
 have d2 : w3.cell? ⟨w.heap.size + 1, 2, none⟩ = some (.slice (some ⟨w.heap.size, 0, none⟩) 2 2) := c2
 clear c0 c1 c2
 go_wp2_with fail
 refine (may_any treeW (some ⟨w.heap.size, 0, none⟩) 2 _ HT3.out.2.2.2 (Nat.le_refl _) HT3.out.2.2.1 (smallT_of 65 treeW s1 HS2.out s3) s3).mono ?_
 rintro e w4 ⟨rfl, hb4⟩
 rw [may_treeW]
 have HT4 := Lib.hid (HT3.out.step hb4)
 clear hb4 HT3 d0 d1 d2
 go_wp2_with fail
 refine (may_any ⟨⟨#[]⟩, ⟨#[]⟩, []⟩ none 0 _ (C_nil _ _ _) (Nat.le_refl _) HT4.out.2.2.1 (smallT_of 65 _ (by decide) (by simp [smallL]) (by simp [cntL])) (by simp [cntL])).mono ?_
 rintro e w5 ⟨rfl, hb5⟩
 rw [may_none]
 have HT5 := Lib.hid (HT4.out.step hb5)
 clear hb5 HT4
 go_wp2_with fail
 go_ret
 exact ⟨rfl, HT5.out.1⟩
end Go.Proofs.YtknfpggiigncpaaGreatDoor.E
end
section
namespace Go.Proofs.YtknfpggiigncpaaGreatDoor.E
open P Go.RowKit YtknfpggiigncpaaGreatDoorW.PrintWords YtknfpggiigncpaaGreatDoorW.PrintLast YtknfpggiigncpaaGreatDoorW.PrintMore
attribute [local go_sem] max2_int min2_int max_two min_two max_three min_three max_four min_four
/-! ### remitterlaw10_plain: function 38 -/
end Go.Proofs.YtknfpggiigncpaaGreatDoor.E
end
section
namespace Go.Proofs.YtknfpggiigncpaaGreatDoor.E
open P Go.RowKit YtknfpggiigncpaaGreatDoorW.PrintWords YtknfpggiigncpaaGreatDoorW.PrintLast YtknfpggiigncpaaGreatDoorW.PrintMore
attribute [local go_sem] max2_int min2_int max_two min_two max_three min_three max_four min_four
/-! ### remitterlaw10_draw: function 39 -/
end Go.Proofs.YtknfpggiigncpaaGreatDoor.E
end
section
namespace Go.Proofs.YtknfpggiigncpaaGreatDoor.E
open P Go.RowKit YtknfpggiigncpaaGreatDoorW.PrintWords YtknfpggiigncpaaGreatDoorW.PrintLast YtknfpggiigncpaaGreatDoorW.PrintMore
attribute [local go_sem] max2_int min2_int max_two min_two max_three min_three max_four min_four
/-! ### remitterlaw10_attributes: function 40 -/
end Go.Proofs.YtknfpggiigncpaaGreatDoor.E
end
section
namespace Go.Proofs.YtknfpggiigncpaaGreatDoor.P
def headB (l : List Oper) : Bool :=
 Region.noSelect l.toArray && (Region.ready .any l.toArray (Array.replicate l.length false) == [0]) && (Region.ready .any l.toArray ((Array.replicate l.length false).setIfInBounds 0 true) == [1])
  && Region.lexFrom .any l.toArray (l.length - 2) 2 (((Array.replicate l.length false).setIfInBounds 0 true).setIfInBounds 1 true)
theorem wp_region_head {P : Program} {id : Nat} {Q : Exit → Act → World → Prop} {a : Act} {w : World} {o0 o1 : Oper} {l : List Oper} (hm : P.follows .mixedOrders = true) (hB : headB (o0 :: o1 :: l) = true)
  (hw0 : o0.guard = none) (hw1 : o1.guard = none)
  (h : o0.wp P a { w with drawn := w.drawn + 1 } (fun a1 w1 => o1.wp P a1 w1 (fun a2 w2 => wpQuiet P (o0 :: o1 :: l).toArray (fun w' => ∃ n, w' = w2.drewN n) (fun a' => ∀ w', (∃ n, w' = w2.drewN n) → Q .normal a' w') l a2) Q) Q) :
  (Code.region id (o0 :: o1 :: l).toArray true).wp P Q a w := by
 unfold headB at hB
 simp only [Bool.and_eq_true, beq_iff_eq] at hB
 obtain ⟨⟨⟨hs, hr0⟩, hr1⟩, hlex⟩ := hB
 refine wp_region_any hm ?_
 have hsz : (o0 :: o1 :: l).toArray.size = l.length + 1 + 1 := by simp
 rw [hsz]
 rw [show (o0 :: o1 :: l).length = l.length + 1 + 1 from rfl] at hr0 hr1 hlex
 refine wpAny_ready (rs := [0]) hr0 (by simp) (AllReady.cons (i := 0) (o := o0) (by simp) (fun K' hK => ?_) AllReady.nil)
 have w0 : ∀ y, Region.wanted o0 y = true := fun y => by unfold Region.wanted; rw [hw0]
 have w1' : ∀ y, Region.wanted o1 y = true := fun y => by unfold Region.wanted; rw [hw1]
 rw [if_pos (w0 _)]
 refine Oper.wp_mono (fun a1 w1 h1 => hK _ _ ?_) h
 refine wpAny_ready (rs := [1]) hr1 (by simp) (AllReady.cons (i := 1) (o := o1) (by simp) (fun K1 hK1 => ?_) AllReady.nil)
 rw [if_pos (w1' _)]
 refine Oper.wp_mono (fun a2 w2 h2 => hK1 _ _ ?_) h1
 refine wpAny_of_quiet (C := fun w' => ∃ n, w' = w2.drewN n) (Q := fun a' => ∀ w', (∃ n, w' = w2.drewN n) → Q .normal a' w') (fun _ w' hw' h => h w' hw') _ _ _ _ ⟨0, rfl⟩ ?_
 refine wpAnyQ_lex hs l 2 _ a2 (fun j => ?_) (by simpa using hlex) h2
 simp [show 2 + j = j + 1 + 1 by omega]
end Go.Proofs.YtknfpggiigncpaaGreatDoor.P
end
