/- out.one over no parts, walked by hand; the three together. -/
import Derived.Test.YtknfpggiigncpaaGreatDoorOt13
set_option maxHeartbeats 8000000
set_option maxRecDepth 100000
set_option linter.unusedVariables false
set_option linter.unusedSimpArgs false
section
namespace Go.Proofs.YtknfpggiigncpaaGreatDoor.E
open Go.RowKit P YtknfpggiigncpaaGreatDoorW.PrintLast YtknfpggiigncpaaGreatDoorW.PrintMore
open YtknfpggiigncpaaGreatDoorW.PrintWords
theorem C_nil {α : Type} (d : Kd α) (w : World) (A : Option Addr) : d.C w A 0 [] := ⟨rfl, by omega, fun h => absurd h (by omega)⟩
theorem one_ge1 (v : S24) (ad : Addr) (c : Nat) (w : World) (hr : k24.C w (some ad) v.f2.length v.f2) (hc : v.f2.length < c) (hG : Glob w) (hs : sized v) (hk : ∀ k ∈ v.f2, sized k) (g : attN v.f2 = v.f2.length) :
  Calls Tryz.prog 53 #[.agg #[.string v.f0, .string v.f1, .slice (some ad) v.f2.length c]] w fun e w' => e = .returned (.bool (oneT v)) ∧ Below w.heap.size w w' := by
 have hu24 := Tryz.underlying24
 have hcn : ¬ (c = v.f2.length) := by omega
 have HR := Lib.hid hr
 have HG := Lib.hid hG
 have HK := Lib.hid hk
 clear hr hk hG
 go_enter Tryz.func53, Tryz.ntmps53
 go_wp2_with fail
 refine (idx84_any (fun x => !attrB x) _ v.f2 _ (some ad) c rfl (Kd.C_below HR.out (below_alloc (Below.refl _ _) _)) (by have := hs.2.2; omega) (fun x A2 c2 wr _ _ h1 h2 => not84 x A2 c2 wr h1 h2)).mono ?_
 rintro e w1 ⟨rfl, hb1⟩
 rw [firstI_not]
 have HX := Lib.hid ((Bx.mk (c := c) HR.out HG.out).step hb1)
 clear hb1
 rw [if_neg (by omega)]
 obtain ⟨x0, x1, x2, _, _, _⟩ := HX.out
 go_wp2_with fail
 cases hn : nameB v.f0.data.toList with
 | false =>
  refine (out_name.calls v.f0 w1 (by have := hs.1; omega)).mono ?_
  rintro e w2 ⟨rfl, hb2⟩
  rw [hn]
  have HX2 := Lib.hid (HX.out.step hb2)
  go_wp2_with fail
  go_ret
  exact ⟨by simp [oneT, hn], HX2.out.2.2.2.1⟩
 | true =>
  refine (out_name.calls v.f0 w1 (by have := hs.1; omega)).mono ?_
  rintro e w2 ⟨rfl, hb2⟩
  rw [hn]
  have HX2 := Lib.hid (HX.out.step hb2)
  clear hb2 x0 x1 x2
  obtain ⟨x0, x1, x2, _, _, g2⟩ := HX2.out
  go_wp2_with fail
  refine (good46 v.f1 _ hs.2.1 g2).mono ?_
  rintro e w3 ⟨rfl, hb3⟩
  have HX3 := Lib.hid (HX2.out.step hb3)
  clear hb3 x0 x1 x2
  obtain ⟨x0, x1, x2, _, c3, g3⟩ := HX3.out
  cases hgd : goodB v.f1.data.toList with
  | false =>
   go_wp2_with fail
   go_ret
   exact ⟨by simp [oneT, hgd], HX3.out.2.2.2.1⟩
  | true =>
   by_cases h19 : v.f2.length ≤ 19
   ·
    have d19 : decide ((19 : Int) < (v.f2.length : Int)) = false := decide_eq_false (by omega)
    have dlt : ¬ ((v.f2.length : Int) < (v.f2.length : Int)) := by omega
    refine id ?_
    ·
     have hz0 : True := trivial
     go_wp2_with fail
     refine (has51 _ [] w3 (some (ad.add (v.f2.length * 3))) (c - v.f2.length) rfl (C_nil _ _ _) (by simp)).mono ?_
     rintro e w4 ⟨rfl, hb4⟩
     have HX4 := Lib.hid (HX3.out.step hb4)
     clear hb4 x0 x1 x2 c3
     obtain ⟨x0, x1, x2, _, c4, g4⟩ := HX4.out
     have hany : (v.f2.drop v.f2.length).any attrB = false := by simp
     refine id ?_
     ·
      have hoT : oneT v = attrsOk [] (v.f2.take v.f2.length) := by simp only [oneT, g, hn, hgd, hany, decide_eq_true h19]; simp
      go_wp2_with fail
      go_loopg [52] (v.f2.length + 1) (fun kq v52 wr => ∃ i : Nat, v52 = .int .i64 i ∧ i ≤ v.f2.length ∧ Aside0 (kq + i = v.f2.length + 1) ∧ Aside0 (oneT v = attrsOk (v.f2.take i) ((v.f2.take (v.f2.length)).drop i)) ∧ Hid (Bx w wr v (some ad) c))
      case atStart => exact ⟨0, rfl, Nat.zero_le _, ⟨rfl⟩, ⟨hoT⟩, HX4⟩
      case round =>
       obtain ⟨i, rfl, hi, HKq, HM, HB⟩ := hrel
       by_cases hlt : i < v.f2.length
       ·
        obtain ⟨x0, x1, x2, hBB, cc, gg⟩ := HB.out
        obtain ⟨ad', A2, c2, e1, k0, k1, k2, l2, p2⟩ := at_T24 cc (i : Int) (by omega) (by omega)
        cases e1
        simp at k0 k1 k2
        have hil : i < v.f2.length := by omega
        have hta : attrB (rd_T24 v.f2 (i : Int)) = true := by
         rw [rd_get v.f2 i hil]
         refine tw_all v.f2 _ ?_
         rw [← take_att]
         exact List.mem_take_iff_getElem.2 ⟨i, by omega, rfl⟩
        have hf0 : 1 ≤ (rd_T24 v.f2 (i : Int)).f0.size := by
         unfold attrB at hta
         rw [B.sz_list]
         cases hz : (rd_T24 v.f2 (i : Int)).f0.data.toList with
         | nil => rw [hz] at hta; cases hta
         | cons x y => simp
        have hf1 : (1 : Int) ≤ ((rd_T24 v.f2 (i : Int)).f0.size : Int) := by omega
        have HE := Lib.hid (Bx.mk (c := c2) p2 gg)
        have HV := Lib.hid (HB.out.step (below_alloc (Below.refl _ _) (.cells #[.string (rd_T24 v.f2 (i : Int)).f0, .string (rd_T24 v.f2 (i : Int)).f1, .slice A2 (rd_T24 v.f2 (i : Int)).f2.length c2] 24)))
        have hsz : sized (rd_T24 v.f2 (i : Int)) := by rw [rd_get v.f2 i hil]; exact HK.out _ (List.getElem_mem hil)
        have hdr : (v.f2.take (v.f2.length)).drop i = rd_T24 v.f2 (i : Int) :: (v.f2.take (v.f2.length)).drop (i + 1) := by rw [rd_get v.f2 i hil, List.drop_eq_getElem_cons (by rw [List.length_take]; omega), List.getElem_take]
        have htk : v.f2.take (i + 1) = v.f2.take i ++ [rd_T24 v.f2 (i : Int)] := by rw [rd_get v.f2 i hil]; exact take_succ_at v.f2 i hil
        have hM2 := HM.out
        rw [hdr] at hM2
        simp only [attrsOk] at hM2
        rw [← htk] at hM2
        have HM2 := Lib.hid hM2
        clear hM2 hdr htk hta p2
        generalize rd_T24 v.f2 (i : Int) = el at *
        go_wp2_with fail
        clear x0 x1 x2 k0 k1 k2
        refine (out_name.calls (el.f0.extract 1 el.f0.size) _ (by rw [ByteArray.size_extract]; have := hsz.1; omega)).mono ?_
        rintro e w5 ⟨rfl, hb5⟩
        have HE5 := Lib.hid (HE.out.step hb5)
        have HV5 := Lib.hid (HV.out.step hb5)
        clear hb5
        rw [show (el.f0.extract 1 el.f0.size).data.toList = atL el by rw [B.ext_list]; unfold atL; rw [List.take_of_length_le (by simp)]]
        obtain ⟨x0, x1, x2, _, d5, g5⟩ := HE5.out
        obtain ⟨y0, y1, y2, _, cv5, _⟩ := HV5.out
        cases hnm : nameB (atL el) with
        | false =>
         go_wp2_with fail
         go_ret
         exact ⟨by rw [HM2.out]; simp [attrOk, hnm], HV5.out.2.2.2.1⟩
        | true =>
         by_cases hx : el.f0.toList = [64, 120, 109, 108, 110, 115]
         ·
          have hxb : (el.f0.toList == [64, 120, 109, 108, 110, 115]) = true := beq_iff_eq.2 hx
          go_wp2_with fail
          go_ret
          refine ⟨?_, HV5.out.2.2.2.1⟩
          rw [HM2.out]
          rw [Lib.toList_data] at hxb
          simp only [attrOk, hxb]
          simp
         ·
          have hxb : (el.f0.toList == [64, 120, 109, 108, 110, 115]) = false := beq_eq_false_iff_ne.2 hx
          go_wp2_with fail
          refine (good46 el.f1 w5 hsz.2.1 g5).mono ?_
          rintro e w6 ⟨rfl, hb6⟩
          have HE6 := Lib.hid (HE5.out.step hb6)
          have HV6 := Lib.hid (HV5.out.step hb6)
          clear hb6 x0 x1 x2 y0 y1 y2 d5 cv5 g5
          obtain ⟨x0, x1, x2, _, d6, g6⟩ := HE6.out
          obtain ⟨y0, y1, y2, _, cv6, _⟩ := HV6.out
          rw [Lib.toList_data] at hxb
          cases hge : goodB el.f1.data.toList with
          | false =>
           go_wp2_with fail
           go_ret
           refine ⟨?_, HV6.out.2.2.2.1⟩
           rw [HM2.out]
           simp only [attrOk, hge]
           simp
          | true =>
           by_cases hkd : el.f2.length = 0
           ·
            have hkb : decide ((0 : Int) < (el.f2.length : Int)) = false := decide_eq_false (by omega)
            go_wp2_with fail
            refine (has87 wr.heap.size el.f0 _ (v.f2.take i) w6 x0 (some ad) c (by first | rw [List.length_take, Nat.min_eq_left (by omega)] | (rw [List.length_take, Nat.min_eq_left (by omega)]; simp)) (by rw [List.length_take, Nat.min_eq_left (by omega)]; exact C_take cv6 i (by omega)) (by rw [List.length_take]; have := hs.2.2; omega)).mono ?_
            rintro e w7 ⟨rfl, hb7⟩
            have HE7 := Lib.hid (HE6.out.step hb7)
            have HV7 := Lib.hid (HV6.out.step hb7)
            clear hb7 x0 x1 x2 y0 y1 y2 d6 cv6 g6
            obtain ⟨x0, x1, x2, _, d7, g7⟩ := HE7.out
            obtain ⟨y0, y1, y2, _, cv7, _⟩ := HV7.out
            cases hdup : (v.f2.take i).any (fun x => x.f0.toList == el.f0.toList) with
            | true =>
             go_wp2_with fail
             go_ret
             refine ⟨?_, HV7.out.2.2.2.1⟩
             rw [HM2.out]
             simp only [Lib.toList_data] at hdup
             simp only [attrOk, hdup]
             simp
            | false =>
             go_wp2_with fail
             go_roundg (v.f2.length - i)
             case measure => have := HKq.out; omega
             case rel =>
              refine ⟨i + 1, by go_num, by omega, ⟨by omega⟩, ⟨?_⟩, HV7⟩
              rw [HM2.out]
              simp only [Lib.toList_data] at hdup
              have hke : el.f2.isEmpty = true := by cases h : el.f2 with | nil => rfl | cons _ _ => rw [h] at hkd; cases hkd
              simp only [attrOk, hdup, hnm, hge, hxb, hke]
              simp
           ·
            have hkb : decide ((0 : Int) < (el.f2.length : Int)) = true := decide_eq_true (by omega)
            go_wp2_with fail
            go_ret
            refine ⟨?_, HV6.out.2.2.2.1⟩
            rw [HM2.out]
            have : el.f2.isEmpty = false := by cases h : el.f2 with | nil => rw [h] at hkd; exact absurd rfl hkd | cons _ _ => rfl
            simp only [attrOk, this]
            simp
       ·
        have hie : i = v.f2.length := by omega
        subst hie
        go_wp2_with fail
        go_ret
        refine ⟨?_, HB.out.2.2.2.1⟩
        rw [HM.out, List.drop_of_length_le (by rw [List.length_take]; omega)]
        rfl
   ·
    have d19 : decide ((19 : Int) < (v.f2.length : Int)) = true := decide_eq_true (by omega)
    go_wp2_with fail
    go_ret
    exact ⟨by simp [oneT, g, hgd, h19], HX3.out.2.2.2.1⟩
theorem one_ge2 (v : S24) (ad : Addr) (w : World) (hr : k24.C w (some ad) v.f2.length v.f2)  (hG : Glob w) (hs : sized v) (hk : ∀ k ∈ v.f2, sized k) (g : attN v.f2 = v.f2.length) :
  Calls Tryz.prog 53 #[.agg #[.string v.f0, .string v.f1, .slice (some ad) v.f2.length v.f2.length]] w fun e w' => e = .returned (.bool (oneT v)) ∧ Below w.heap.size w w' := by
 have hu24 := Tryz.underlying24
 have HR := Lib.hid hr
 have HG := Lib.hid hG
 have HK := Lib.hid hk
 clear hr hk hG
 go_enter Tryz.func53, Tryz.ntmps53
 go_wp2_with fail
 refine (idx84_any (fun x => !attrB x) _ v.f2 _ (some ad) v.f2.length rfl (Kd.C_below HR.out (below_alloc (Below.refl _ _) _)) (by have := hs.2.2; omega) (fun x A2 c2 wr _ _ h1 h2 => not84 x A2 c2 wr h1 h2)).mono ?_
 rintro e w1 ⟨rfl, hb1⟩
 rw [firstI_not]
 have HX := Lib.hid ((Bx.mk (c := v.f2.length) HR.out HG.out).step hb1)
 clear hb1
 rw [if_neg (by omega)]
 obtain ⟨x0, x1, x2, _, _, _⟩ := HX.out
 go_wp2_with fail
 cases hn : nameB v.f0.data.toList with
 | false =>
  refine (out_name.calls v.f0 w1 (by have := hs.1; omega)).mono ?_
  rintro e w2 ⟨rfl, hb2⟩
  rw [hn]
  have HX2 := Lib.hid (HX.out.step hb2)
  go_wp2_with fail
  go_ret
  exact ⟨by simp [oneT, hn], HX2.out.2.2.2.1⟩
 | true =>
  refine (out_name.calls v.f0 w1 (by have := hs.1; omega)).mono ?_
  rintro e w2 ⟨rfl, hb2⟩
  rw [hn]
  have HX2 := Lib.hid (HX.out.step hb2)
  clear hb2 x0 x1 x2
  obtain ⟨x0, x1, x2, _, _, g2⟩ := HX2.out
  go_wp2_with fail
  refine (good46 v.f1 _ hs.2.1 g2).mono ?_
  rintro e w3 ⟨rfl, hb3⟩
  have HX3 := Lib.hid (HX2.out.step hb3)
  clear hb3 x0 x1 x2
  obtain ⟨x0, x1, x2, _, c3, g3⟩ := HX3.out
  cases hgd : goodB v.f1.data.toList with
  | false =>
   go_wp2_with fail
   go_ret
   exact ⟨by simp [oneT, hgd], HX3.out.2.2.2.1⟩
  | true =>
   by_cases h19 : v.f2.length ≤ 19
   ·
    have d19 : decide ((19 : Int) < (v.f2.length : Int)) = false := decide_eq_false (by omega)
    have dlt : ¬ ((v.f2.length : Int) < (v.f2.length : Int)) := by omega
    refine id ?_
    ·
     have hz0 : True := trivial
     go_wp2_with fail
     refine (has51 _ [] w3 (some ad) 0 rfl (C_nil _ _ _) (by simp)).mono ?_
     rintro e w4 ⟨rfl, hb4⟩
     have HX4 := Lib.hid (HX3.out.step hb4)
     clear hb4 x0 x1 x2 c3
     obtain ⟨x0, x1, x2, _, c4, g4⟩ := HX4.out
     have hany : (v.f2.drop v.f2.length).any attrB = false := by simp
     refine id ?_
     ·
      have hoT : oneT v = attrsOk [] (v.f2.take v.f2.length) := by simp only [oneT, g, hn, hgd, hany, decide_eq_true h19]; simp
      go_wp2_with fail
      go_loopg [52] (v.f2.length + 1) (fun kq v52 wr => ∃ i : Nat, v52 = .int .i64 i ∧ i ≤ v.f2.length ∧ Aside0 (kq + i = v.f2.length + 1) ∧ Aside0 (oneT v = attrsOk (v.f2.take i) ((v.f2.take (v.f2.length)).drop i)) ∧ Hid (Bx w wr v (some ad) v.f2.length))
      case atStart => exact ⟨0, rfl, Nat.zero_le _, ⟨rfl⟩, ⟨hoT⟩, HX4⟩
      case round =>
       obtain ⟨i, rfl, hi, HKq, HM, HB⟩ := hrel
       by_cases hlt : i < v.f2.length
       ·
        obtain ⟨x0, x1, x2, hBB, cc, gg⟩ := HB.out
        obtain ⟨ad', A2, c2, e1, k0, k1, k2, l2, p2⟩ := at_T24 cc (i : Int) (by omega) (by omega)
        cases e1
        simp at k0 k1 k2
        have hil : i < v.f2.length := by omega
        have hta : attrB (rd_T24 v.f2 (i : Int)) = true := by
         rw [rd_get v.f2 i hil]
         refine tw_all v.f2 _ ?_
         rw [← take_att]
         exact List.mem_take_iff_getElem.2 ⟨i, by omega, rfl⟩
        have hf0 : 1 ≤ (rd_T24 v.f2 (i : Int)).f0.size := by
         unfold attrB at hta
         rw [B.sz_list]
         cases hz : (rd_T24 v.f2 (i : Int)).f0.data.toList with
         | nil => rw [hz] at hta; cases hta
         | cons x y => simp
        have hf1 : (1 : Int) ≤ ((rd_T24 v.f2 (i : Int)).f0.size : Int) := by omega
        have HE := Lib.hid (Bx.mk (c := c2) p2 gg)
        have HV := Lib.hid (HB.out.step (below_alloc (Below.refl _ _) (.cells #[.string (rd_T24 v.f2 (i : Int)).f0, .string (rd_T24 v.f2 (i : Int)).f1, .slice A2 (rd_T24 v.f2 (i : Int)).f2.length c2] 24)))
        have hsz : sized (rd_T24 v.f2 (i : Int)) := by rw [rd_get v.f2 i hil]; exact HK.out _ (List.getElem_mem hil)
        have hdr : (v.f2.take (v.f2.length)).drop i = rd_T24 v.f2 (i : Int) :: (v.f2.take (v.f2.length)).drop (i + 1) := by rw [rd_get v.f2 i hil, List.drop_eq_getElem_cons (by rw [List.length_take]; omega), List.getElem_take]
        have htk : v.f2.take (i + 1) = v.f2.take i ++ [rd_T24 v.f2 (i : Int)] := by rw [rd_get v.f2 i hil]; exact take_succ_at v.f2 i hil
        have hM2 := HM.out
        rw [hdr] at hM2
        simp only [attrsOk] at hM2
        rw [← htk] at hM2
        have HM2 := Lib.hid hM2
        clear hM2 hdr htk hta p2
        generalize rd_T24 v.f2 (i : Int) = el at *
        go_wp2_with fail
        clear x0 x1 x2 k0 k1 k2
        refine (out_name.calls (el.f0.extract 1 el.f0.size) _ (by rw [ByteArray.size_extract]; have := hsz.1; omega)).mono ?_
        rintro e w5 ⟨rfl, hb5⟩
        have HE5 := Lib.hid (HE.out.step hb5)
        have HV5 := Lib.hid (HV.out.step hb5)
        clear hb5
        rw [show (el.f0.extract 1 el.f0.size).data.toList = atL el by rw [B.ext_list]; unfold atL; rw [List.take_of_length_le (by simp)]]
        obtain ⟨x0, x1, x2, _, d5, g5⟩ := HE5.out
        obtain ⟨y0, y1, y2, _, cv5, _⟩ := HV5.out
        cases hnm : nameB (atL el) with
        | false =>
         go_wp2_with fail
         go_ret
         exact ⟨by rw [HM2.out]; simp [attrOk, hnm], HV5.out.2.2.2.1⟩
        | true =>
         by_cases hx : el.f0.toList = [64, 120, 109, 108, 110, 115]
         ·
          have hxb : (el.f0.toList == [64, 120, 109, 108, 110, 115]) = true := beq_iff_eq.2 hx
          go_wp2_with fail
          go_ret
          refine ⟨?_, HV5.out.2.2.2.1⟩
          rw [HM2.out]
          rw [Lib.toList_data] at hxb
          simp only [attrOk, hxb]
          simp
         ·
          have hxb : (el.f0.toList == [64, 120, 109, 108, 110, 115]) = false := beq_eq_false_iff_ne.2 hx
          go_wp2_with fail
          refine (good46 el.f1 w5 hsz.2.1 g5).mono ?_
          rintro e w6 ⟨rfl, hb6⟩
          have HE6 := Lib.hid (HE5.out.step hb6)
          have HV6 := Lib.hid (HV5.out.step hb6)
          clear hb6 x0 x1 x2 y0 y1 y2 d5 cv5 g5
          obtain ⟨x0, x1, x2, _, d6, g6⟩ := HE6.out
          obtain ⟨y0, y1, y2, _, cv6, _⟩ := HV6.out
          rw [Lib.toList_data] at hxb
          cases hge : goodB el.f1.data.toList with
          | false =>
           go_wp2_with fail
           go_ret
           refine ⟨?_, HV6.out.2.2.2.1⟩
           rw [HM2.out]
           simp only [attrOk, hge]
           simp
          | true =>
           by_cases hkd : el.f2.length = 0
           ·
            have hkb : decide ((0 : Int) < (el.f2.length : Int)) = false := decide_eq_false (by omega)
            go_wp2_with fail
            refine (has87 wr.heap.size el.f0 _ (v.f2.take i) w6 x0 (some ad) v.f2.length (by first | rw [List.length_take, Nat.min_eq_left (by omega)] | (rw [List.length_take, Nat.min_eq_left (by omega)]; simp)) (by rw [List.length_take, Nat.min_eq_left (by omega)]; exact C_take cv6 i (by omega)) (by rw [List.length_take]; have := hs.2.2; omega)).mono ?_
            rintro e w7 ⟨rfl, hb7⟩
            have HE7 := Lib.hid (HE6.out.step hb7)
            have HV7 := Lib.hid (HV6.out.step hb7)
            clear hb7 x0 x1 x2 y0 y1 y2 d6 cv6 g6
            obtain ⟨x0, x1, x2, _, d7, g7⟩ := HE7.out
            obtain ⟨y0, y1, y2, _, cv7, _⟩ := HV7.out
            cases hdup : (v.f2.take i).any (fun x => x.f0.toList == el.f0.toList) with
            | true =>
             go_wp2_with fail
             go_ret
             refine ⟨?_, HV7.out.2.2.2.1⟩
             rw [HM2.out]
             simp only [Lib.toList_data] at hdup
             simp only [attrOk, hdup]
             simp
            | false =>
             go_wp2_with fail
             go_roundg (v.f2.length - i)
             case measure => have := HKq.out; omega
             case rel =>
              refine ⟨i + 1, by go_num, by omega, ⟨by omega⟩, ⟨?_⟩, HV7⟩
              rw [HM2.out]
              simp only [Lib.toList_data] at hdup
              have hke : el.f2.isEmpty = true := by cases h : el.f2 with | nil => rfl | cons _ _ => rw [h] at hkd; cases hkd
              simp only [attrOk, hdup, hnm, hge, hxb, hke]
              simp
           ·
            have hkb : decide ((0 : Int) < (el.f2.length : Int)) = true := decide_eq_true (by omega)
            go_wp2_with fail
            go_ret
            refine ⟨?_, HV6.out.2.2.2.1⟩
            rw [HM2.out]
            have : el.f2.isEmpty = false := by cases h : el.f2 with | nil => rw [h] at hkd; exact absurd rfl hkd | cons _ _ => rfl
            simp only [attrOk, this]
            simp
       ·
        have hie : i = v.f2.length := by omega
        subst hie
        go_wp2_with fail
        go_ret
        refine ⟨?_, HB.out.2.2.2.1⟩
        rw [HM.out, List.drop_of_length_le (by rw [List.length_take]; omega)]
        rfl
   ·
    have d19 : decide ((19 : Int) < (v.f2.length : Int)) = true := decide_eq_true (by omega)
    go_wp2_with fail
    go_ret
    exact ⟨by simp [oneT, g, hgd, h19], HX3.out.2.2.2.1⟩
theorem one_nil (v : S24) (hv : v.f2 = []) (c : Nat) (w : World) (hG : Glob w) (hs : sized v) :
  Calls Tryz.prog 53 #[.agg #[.string v.f0, .string v.f1, .slice none v.f2.length c]] w fun e w' => e = .returned (.bool (oneT v)) ∧ Below w.heap.size w w' := by
 have hu24 := Tryz.underlying24
 obtain ⟨a, b, l⟩ := v
 simp only at hv
 subst hv
 have HG := Lib.hid hG
 clear hG
 simp only [List.length_nil]
 go_enter Tryz.func53, Tryz.ntmps53
 go_wp2_with fail
 refine (idx84_any (fun x => !attrB x) _ [] _ none c rfl (C_nil _ _ _) (by simp) (fun x A2 c2 wr _ _ h1 h2 => not84 x A2 c2 wr h1 h2)).mono ?_
 rintro e w1 ⟨rfl, hb1⟩
 rw [show firstI (fun x => !attrB x) [] 0 = -1 from rfl]
 have HX := Lib.hid ((Bx.mk (v := ⟨a, b, []⟩) (A := none) (c := c) (C_nil _ _ _) HG.out).step hb1)
 clear hb1
 obtain ⟨x0, x1, x2, _, _, _⟩ := HX.out
 simp only [List.length_nil] at x0 x1 x2
 go_wp2_with fail
 cases hn : nameB a.data.toList with
 | false =>
  refine (out_name.calls a w1 (by have := hs.1; simp only at this; omega)).mono ?_
  rintro e w2 ⟨rfl, hb2⟩
  rw [hn]
  have HX2 := Lib.hid (HX.out.step hb2)
  go_wp2_with fail
  go_ret
  exact ⟨by simp [oneT, hn], HX2.out.2.2.2.1⟩
 | true =>
  refine (out_name.calls a w1 (by have := hs.1; simp only at this; omega)).mono ?_
  rintro e w2 ⟨rfl, hb2⟩
  rw [hn]
  have HX2 := Lib.hid (HX.out.step hb2)
  clear hb2 x0 x1 x2
  obtain ⟨x0, x1, x2, _, _, g2⟩ := HX2.out
  simp only [List.length_nil] at x0 x1 x2
  go_wp2_with fail
  refine (good46 b _ hs.2.1 g2).mono ?_
  rintro e w3 ⟨rfl, hb3⟩
  have HX3 := Lib.hid (HX2.out.step hb3)
  clear hb3 x0 x1 x2
  obtain ⟨x0, x1, x2, _, c3, g3⟩ := HX3.out
  simp only [List.length_nil] at x0 x1 x2
  cases hgd : goodB b.data.toList with
  | false =>
   go_wp2_with fail
   go_ret
   exact ⟨by simp [oneT, hgd], HX3.out.2.2.2.1⟩
  | true =>
   go_wp2_with fail
   refine (has51 _ [] w3 none c rfl (C_nil _ _ _) (by simp)).mono ?_
   rintro e w4 ⟨rfl, hb4⟩
   have HX4 := Lib.hid (HX3.out.step hb4)
   clear hb4 x0 x1 x2 c3
   obtain ⟨x0, x1, x2, _, c4, g4⟩ := HX4.out
   simp only [List.length_nil] at x0 x1 x2
   go_wp2_with fail
   go_loopg [52] 1 (fun kq v52 wr => v52 = .int .i64 0 ∧ Hid (Below w.heap.size w wr))
   case atStart => exact ⟨rfl, HX4.out.2.2.2.1⟩
   case round =>
    obtain ⟨rfl, HB⟩ := hrel
    go_wp2_with fail
    go_ret
    exact ⟨by simp [oneT, hn, hgd, attN, attrsOk], HB.out⟩
theorem att_le (l : List S24) : attN l ≤ l.length := by
 have := congrArg List.length (take_att l)
 unfold attN
 have h2 : (l.takeWhile attrB).length ≤ l.length := (List.takeWhile_sublist attrB).length_le
 exact h2
theorem one_any (v : S24) (A : Option Addr) (c : Nat) (w : World) (hr : k24.C w A v.f2.length v.f2) (hc : v.f2.length ≤ c) (hG : Glob w) (hs : sized v) (hk : ∀ k ∈ v.f2, sized k) :
  Calls Tryz.prog 53 #[.agg #[.string v.f0, .string v.f1, .slice A v.f2.length c]] w fun e w' => e = .returned (.bool (oneT v)) ∧ Below w.heap.size w w' := by
 by_cases g : attN v.f2 < v.f2.length
 ·
  exact one_lt v A c w hr hc hG hs hk g
 have g' : attN v.f2 = v.f2.length := by have := att_le v.f2; omega
 cases A with
 | none =>
  refine one_nil v ?_ c w hG hs
  obtain ⟨_, _, q⟩ := hr
  cases hl : v.f2 with
  | nil => rfl
  | cons x y => obtain ⟨ad, e, _⟩ := q (by rw [hl]; simp); cases e
 | some ad =>
  by_cases h : c = v.f2.length
  ·
   subst h; exact one_ge2 v ad w hr hG hs hk g'
  ·
   exact one_ge1 v ad c w hr (by omega) hG hs hk g'
end Go.Proofs.YtknfpggiigncpaaGreatDoor.E
end
