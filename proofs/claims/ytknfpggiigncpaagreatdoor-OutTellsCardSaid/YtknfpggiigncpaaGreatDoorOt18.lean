/- out.Write, walked by hand. -/
import Derived.Test.YtknfpggiigncpaaGreatDoorOt16
set_option linter.unusedVariables false
set_option linter.unusedSimpArgs false
namespace Go.Proofs.YtknfpggiigncpaaGreatDoor.E
open Go.RowKit Go.Proofs.YtknfpggiigncpaaGreatDoor.P Go.Proofs.YtknfpggiigncpaaGreatDoorW.PrintLast Go.Proofs.YtknfpggiigncpaaGreatDoorW.PrintMore
open Go.Proofs.YtknfpggiigncpaaGreatDoorW.PrintWords

theorem elemL_le (space : ByteArray) (v : S24) (h0 : space.size ≤ 200) (h1 : v.f0.size + v.f1.size < 2000) (h2 : smallL v.f2) (h3 : cntL v.f2 ≤ 1000) : (elemL v (spaceL space.data.toList)).length ≤ 100000000 := by
  have hes := escL_len space.data.toList
  have hsp := B.sz_list space
  have hpl := parts_len v.f2 h2
  have h5 := B.sz_list v.f0
  have h6 := B.sz_list v.f1
  have h7 := escL_len v.f1.data.toList
  simp only [elemL, formL, spaceL, List.length_append, List.length_cons, List.length_nil]
  omega
set_option maxHeartbeats 8000000 in
set_option maxRecDepth 100000 in
theorem write_any (space : ByteArray) (v : S24) (A : Option Addr) (c : Nat) (w : World) (h0 : space.size ≤ 200) (hr : k24.C w A v.f2.length v.f2) (hc : v.f2.length ≤ c) (hG : Glob w) (h1 : v.f0.size + v.f1.size < 2000) (h2 : smallL v.f2) (h3 : cntL v.f2 ≤ 1000) :
    Calls Tryz.prog 18 #[.string space, .agg #[.string v.f0, .string v.f1, .slice A v.f2.length c]] w fun e w' => e = .returned (.tuple #[.string (writeT space v).1, .int .i64 (writeT space v).2]) ∧ Below w.heap.size w w' := by
  have hu24 := Tryz.underlying24
  have HL := elemL_le space v h0 h1 h2 h3
  have HS5 := Lib.hid (smallT_of 65 v h1 h2 h3)
  have HS4 := Lib.hid (smallT_of 64 v h1 h2 h3)
  have HR := Lib.hid hr
  have HG := Lib.hid hG
  have HB1 := Lib.hid (below_alloc (Below.refl w.heap.size w) (.cells #[.string v.f0, .string v.f1, .slice A v.f2.length c] 24))
  have hbv : Bv (w.alloc (.cells #[.string v.f0, .string v.f1, .slice A v.f2.length c] 24)) w.heap.size v A c := cells_al _ _ _
  clear hr hG h2
  go_enter Tryz.func18, Tryz.ntmps18
  by_cases hz : space.size = 0
  · have e3 : space.toList.isEmpty = true := by
      rw [B.toL, List.length_eq_zero_iff.1 (show space.data.toList.length = 0 by rw [← B.sz_list]; exact hz)]
      rfl
    have hw : writeT space v = (⟨#[]⟩, 1) := by unfold writeT; rw [if_pos (.inl hz)]
    go_wp2_with fail
    go_ret2
    exact ⟨by rw [hw]; rfl, HB1.out⟩
  have e3 : space.toList.isEmpty = false := by
    rw [B.toL]
    cases h : space.data.toList with
    | nil => exact absurd (by rw [B.sz_list, h]; rfl) hz
    | cons x y => rfl
  obtain ⟨c0, c1, c2⟩ := hbv.cells
  go_wp2_with fail
  refine (good46 space _ (by omega) (HG.out.below HB1.out)).mono ?_
  rintro e w2 ⟨rfl, hb2⟩
  have hbv2 : Bv w2 w.heap.size v A c := (hb2.block _ (Array.getElem?_eq_some_iff.1 hbv).1).trans hbv
  have HB2 := Lib.hid (HB1.out.trans (hb2.mono HB1.out.size))
  clear hb2 hbv c0 c1 c2 HB1
  obtain ⟨c0, c1, c2⟩ := hbv2.cells
  cases hg : goodB space.data.toList with
  | false =>
    have hw : writeT space v = (⟨#[]⟩, 1) := by unfold writeT; rw [if_pos (.inr (.inl hg))]
    go_wp2_with fail
    go_ret2
    exact ⟨by rw [hw]; rfl, HB2.out⟩
  | true =>
    go_wp2_with fail
    refine (may_any v A c _ (Kd.C_below HR.out HB2.out) hc (HG.out.below HB2.out) HS5.out h3).mono ?_
    rintro e w3 ⟨rfl, hb3⟩
    have hbv3 : Bv w3 w.heap.size v A c := (hb3.block _ (Array.getElem?_eq_some_iff.1 hbv2).1).trans hbv2
    have HB3 := Lib.hid (HB2.out.trans (hb3.mono HB2.out.size))
    clear hb3 hbv2 c0 c1 c2 HB2
    cases hm : mayP v with
    | false =>
      have hw : writeT space v = (⟨#[]⟩, 1) := by unfold writeT; rw [if_pos (.inr (.inr hm))]
      go_wp2_with fail
      go_ret2
      exact ⟨by rw [hw]; rfl, HB3.out⟩
    | true =>
      obtain ⟨hat, hall⟩ : attrB v = false ∧ allN 64 v = true := by
        unfold mayP at hm
        simpa using hm
      have hw : writeT space v = if 1048576 < (headL ++ elemL v (spaceL space.data.toList)).length then (⟨#[]⟩, 3) else (⟨(headL ++ elemL v (spaceL space.data.toList)).toArray⟩, 0) := by
        unfold writeT; rw [if_neg (by rw [hg, hm]; simp [hz])]
      have hB0 : Lib.IsBuilderF 65 5 w3.heap.size w3.heap.size (Lib.byteCells []) (w3.alloc (.cells #[.pointer none, .slice none 0 0] 65)) := Lib.IsBuilderF.of (Lib.fresh_isBuilder 65 5 w3)
      have HG3 := Lib.hid (HG.out.below HB3.out)
      have HC3 := Lib.hid (Kd.C_below HR.out HB3.out)
      have hb0 := below_alloc (Below.refl w3.heap.size w3) (.cells #[.pointer none, .slice none 0 0] 65)
      have HB0 := Lib.hid hB0
      have Hb0 := Lib.hid hb0
      clear hB0 hb0
      obtain ⟨c0, c1, c2⟩ := hbv3.cells
      go_wp2_with fail
      refine (put_calls w3.heap.size w3.heap.size [] _ _ HB0.out (by show 0 + 39 ≤ _; omega) Hb0.out.size).mono ?_
      rintro e w4 ⟨rfl, q1, q2, q3⟩
      have hbv4 : Bv w4 w.heap.size v A c := (q2.block _ (Array.getElem?_eq_some_iff.1 hbv3).1).trans ((Hb0.out.block _ (Array.getElem?_eq_some_iff.1 hbv3).1).trans hbv3)
      have HQ1 := Lib.hid q1
      have HQ2 := Lib.hid (Hb0.out.trans q2)
      clear q1 q2 q3 c0 c1 c2 hbv3
      obtain ⟨c0, c1, c2⟩ := hbv4.cells
      have hsp : spOf space = spaceL space.data.toList := by unfold spOf; rw [if_neg hz]
      go_wp2_with fail
      refine (elem_any w3 HG3.out w3.heap.size 64 v A c space _ w4 hall hat HS4.out (by omega) HC3.out hc HQ1.out HQ2.out (by rw [hsp]; show 0 + 39 + _ ≤ _; omega)).mono ?_
      rintro e w5 ⟨⟨rx, rfl⟩, q1, q2, q3⟩
      rw [hsp] at q1
      have HQ5 := Lib.hid q1
      have HB5 := Lib.hid (HQ2.out.trans q2)
      clear q1 q2 q3 c0 c1 c2
      obtain ⟨bs, hbs⟩ : ∃ bs, headL ++ elemL v (spaceL space.data.toList) = bs := ⟨_, rfl⟩
      have HQ6 : Hid (Lib.IsBuilderF 65 5 w3.heap.size w3.heap.size (Lib.byteCells bs) w5) := by rw [← hbs]; exact HQ5.out
      clear HQ5
      rw [hbs] at hw
      have hbl : (Lib.byteCells bs).length = bs.length := by simp [Lib.byteCells]
      go_wp2_with fail
      refine (Tryz.Builder_Len_f w3.heap.size w3.heap.size _ w5 HQ6.out).mono ?_
      rintro e w6 ⟨rfl, rfl⟩
      rw [hbl]
      by_cases hlen : 1048576 < bs.length
      · have hd : decide ((1048576 : Int) < (bs.length : Int)) = true := decide_eq_true (by omega)
        rw [if_pos hlen] at hw
        go_wp2_with fail
        go_ret2
        exact ⟨by rw [hw]; rfl, HB3.out.trans (HB5.out.mono HB3.out.size)⟩
      · have hd : decide ((1048576 : Int) < (bs.length : Int)) = false := decide_eq_false (by omega)
        rw [if_neg hlen] at hw
        go_wp2_with fail
        refine (Tryz.Builder_String_any_k _ _ _ _ HQ6.out HB5.out.size).mono ?_
        rintro e w7 ⟨rfl, -, hb7, -⟩
        go_wp2_with fail
        go_ret2
        exact ⟨by rw [hw]; rfl, HB3.out.trans ((HB5.out.trans hb7).mono HB3.out.size)⟩
end Go.Proofs.YtknfpggiigncpaaGreatDoor.E
