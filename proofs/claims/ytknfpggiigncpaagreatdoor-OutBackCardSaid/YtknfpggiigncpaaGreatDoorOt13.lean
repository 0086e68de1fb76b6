/- A tree's parts, as the program goes through them: plain. -/
import Derived.Test.YtknfpggiigncpaaGreatDoorOt15
import Derived.Test.YtknfpggiigncpaaGreatDoorOt5
set_option linter.unusedVariables false
set_option linter.unusedSimpArgs false
section
namespace Go.Proofs.YtknfpggiigncpaaGreatDoor.E
open Go.RowKit P YtknfpggiigncpaaGreatDoorW.PrintLast YtknfpggiigncpaaGreatDoorW.PrintMore
open YtknfpggiigncpaaGreatDoorW.PrintWords
theorem good46 (s : ByteArray) (w : World) (hs : s.size ≤ 5000) (hG : Glob w) : Calls Tryz.prog 46 #[.string s] w fun e w' => e = .returned (.bool (goodB s.data.toList)) ∧ Below w.heap.size w w' :=
 out_good.calls s _ w (by unfold out_good.f goodB; rw [check_f s (by omega)]; exact congrArg some (by rw [Bool.eq_iff_iff]; simp)) hG
def Bx (w W : World) (v : S24) (A : Option Addr) (c : Nat) : Prop :=
 W.cell? ⟨w.heap.size, 0, none⟩ = some (.string v.f0) ∧ W.cell? ⟨w.heap.size, 1, none⟩ = some (.string v.f1) ∧ W.cell? ⟨w.heap.size, 2, none⟩ = some (.slice A v.f2.length c) ∧
  Below w.heap.size w W ∧ k24.C W A v.f2.length v.f2 ∧ Glob W
theorem Bx.step {w W W' : World} {v : S24} {A : Option Addr} {c : Nat} (h : Bx w W v A c) (hb : Below W.heap.size W W') : Bx w W' v A c :=
 ⟨cellBelow hb h.1, cellBelow hb h.2.1, cellBelow hb h.2.2.1, h.2.2.2.1.trans (hb.mono h.2.2.2.1.size), Kd.C_below h.2.2.2.2.1 hb, h.2.2.2.2.2.below hb⟩
theorem cells_al (w : World) (cs : Array Value) (t : TypeId) : (w.alloc (.cells cs t)).heap[w.heap.size]? = some (.cells cs t (0, 0)) := by
 show (w.heap.push _)[w.heap.size]? = _
 simp
theorem new_cell (W : World) (c : Array Value) (t : TypeId) (b : Nat) (hb : W.heap.size = b) (i : Nat) : (W.alloc (.cells c t)).cell? ⟨b, i, none⟩ = c[i]? ∧ (W.alloc (.cells c t)).frozen? ⟨b, i, none⟩ = false := by
 subst hb
 exact ⟨cell_of_row _ _ _ _ _ _ (cells_al W c t), frozen_of_row _ _ _ _ _ (cells_al W c t)⟩
theorem Bx.mk {w : World} {v : S24} {A : Option Addr} {c : Nat} (hr : k24.C w A v.f2.length v.f2) (hG : Glob w) : Bx w (w.alloc (.cells #[.string v.f0, .string v.f1, .slice A v.f2.length c] 24)) v A c :=
 ⟨(new_cell w _ _ _ rfl 0).1, (new_cell w _ _ _ rfl 1).1, (new_cell w _ _ _ rfl 2).1, below_alloc (Below.refl _ _) _, Kd.C_below hr (below_alloc (Below.refl _ _) _), hG.below (below_alloc (Below.refl _ _) _)⟩
set_option maxHeartbeats 8000000 in
set_option maxRecDepth 100000 in
theorem one_lt (v : S24) (A : Option Addr) (c : Nat) (w : World) (hr : k24.C w A v.f2.length v.f2) (hc : v.f2.length ≤ c) (hG : Glob w) (hs : sized v) (hk : ∀ k ∈ v.f2, sized k) (g : attN v.f2 < v.f2.length) :
  Calls Tryz.prog 53 #[.agg #[.string v.f0, .string v.f1, .slice A v.f2.length c]] w fun e w' => e = .returned (.bool (oneT v)) ∧ Below w.heap.size w w' := by
 have hu24 := Tryz.underlying24
 have HR := Lib.hid hr
 have HG := Lib.hid hG
 have HK := Lib.hid hk
 clear hr hk hG
 go_enter Tryz.func53, Tryz.ntmps53
 go_wp2_with fail
 refine (idx84_any (fun x => !attrB x) _ v.f2 _ A c rfl (Kd.C_below HR.out (below_alloc (Below.refl _ _) _)) (by have := hs.2.2; omega) (fun x A2 c2 wr _ _ h1 h2 => not84 x A2 c2 wr h1 h2)).mono ?_
 rintro e w1 ⟨rfl, hb1⟩
 rw [firstI_not]
 have HX := Lib.hid ((Bx.mk (c := c) HR.out HG.out).step hb1)
 clear hb1
 rw [if_pos g]
 obtain ⟨x0, x1, x2, _, _, _⟩ := HX.out
 go_wp2_with fail
 cases hn : nameB v.f0.data.toList with
 | false =>
  refine (out_name.calls v.f0 w1 (by have := hs.1; omega)).mono ?_
  rintro e w2 ⟨rfl, hb2⟩
  rw [hn]
  have HX2 := Lib.hid (HX.out.step hb2)
  go_wp2_with fail
  go_ret
  exact ⟨by simp [oneT, hn], HX2.out.2.2.2.1⟩
 | true =>
  refine (out_name.calls v.f0 w1 (by have := hs.1; omega)).mono ?_
  rintro e w2 ⟨rfl, hb2⟩
  rw [hn]
  have HX2 := Lib.hid (HX.out.step hb2)
  clear hb2 x0 x1 x2
  obtain ⟨x0, x1, x2, _, _, g2⟩ := HX2.out
  go_wp2_with fail
  refine (good46 v.f1 _ hs.2.1 g2).mono ?_
  rintro e w3 ⟨rfl, hb3⟩
  have HX3 := Lib.hid (HX2.out.step hb3)
  clear hb3 x0 x1 x2
  obtain ⟨x0, x1, x2, _, c3, g3⟩ := HX3.out
  cases hgd : goodB v.f1.data.toList with
  | false =>
   go_wp2_with fail
   go_ret
   exact ⟨by simp [oneT, hgd], HX3.out.2.2.2.1⟩
  | true =>
   by_cases h19 : attN v.f2 ≤ 19
   ·
    have d19 : decide ((19 : Int) < (attN v.f2 : Int)) = false := decide_eq_false (by omega)
    have dlt : decide ((attN v.f2 : Int) < (v.f2.length : Int)) = true := decide_eq_true (by omega)
    by_cases ht : v.f1.size = 0
    ·
     have hte : v.f1.toList.isEmpty = true := by rw [Lib.toList_data, List.isEmpty_iff, ← List.length_eq_zero_iff, ← B.sz_list]; exact ht
     obtain ⟨ad, rfl⟩ : ∃ ad, A = some ad := by obtain ⟨_, _, q⟩ := c3; obtain ⟨ad, e, _⟩ := q (by omega); exact ⟨ad, e⟩
     go_wp2_with fail
     refine (has51 _ (v.f2.drop (attN v.f2)) w3 (some (ad.add (attN v.f2 * 3))) (c - attN v.f2) (by rw [List.length_drop]) (by rw [List.length_drop]; exact C_drop c3 _ (by omega)) (by rw [List.length_drop]; have := hs.2.2; omega)).mono ?_
     rintro e w4 ⟨rfl, hb4⟩
     have HX4 := Lib.hid (HX3.out.step hb4)
     clear hb4 x0 x1 x2 c3
     obtain ⟨x0, x1, x2, _, c4, g4⟩ := HX4.out
     cases hany : (v.f2.drop (attN v.f2)).any attrB with
     | true =>
      go_wp2_with fail
      go_ret
      refine ⟨?_, HX4.out.2.2.2.1⟩
      simp only [oneT, hany]
      simp
     | false =>
      have hoT : oneT v = attrsOk [] (v.f2.take (attN v.f2)) := by simp only [oneT, hn, hgd, hany, decide_eq_true h19]; rw [List.length_eq_zero_iff.1 (show v.f1.data.toList.length = 0 by rw [← B.sz_list]; exact ht)]; simp
      go_wp2_with fail
      go_loopg [52] (attN v.f2 + 1) (fun kq v52 wr => ∃ i : Nat, v52 = .int .i64 i ∧ i ≤ attN v.f2 ∧ Aside0 (kq + i = attN v.f2 + 1) ∧ Aside0 (oneT v = attrsOk (v.f2.take i) ((v.f2.take (attN v.f2)).drop i)) ∧ Hid (Bx w wr v (some ad) c))
      case atStart => exact ⟨0, rfl, Nat.zero_le _, ⟨rfl⟩, ⟨hoT⟩, HX4⟩
      case round =>
       obtain ⟨i, rfl, hi, HKq, HM, HB⟩ := hrel
       by_cases hlt : i < attN v.f2
       ·
        obtain ⟨x0, x1, x2, hBB, cc, gg⟩ := HB.out
        obtain ⟨ad', A2, c2, e1, k0, k1, k2, l2, p2⟩ := at_T24 cc (i : Int) (by omega) (by omega)
        cases e1
        simp at k0 k1 k2
        have hil : i < v.f2.length := by omega
        have hta : attrB (rd_T24 v.f2 (i : Int)) = true := by
         rw [rd_get v.f2 i hil]
         refine tw_all v.f2 _ ?_
         rw [← take_att]
         exact List.mem_take_iff_getElem.2 ⟨i, by omega, rfl⟩
        have hf0 : 1 ≤ (rd_T24 v.f2 (i : Int)).f0.size := by
         unfold attrB at hta
         rw [B.sz_list]
         cases hz : (rd_T24 v.f2 (i : Int)).f0.data.toList with
         | nil => rw [hz] at hta; cases hta
         | cons x y => simp
        have hf1 : (1 : Int) ≤ ((rd_T24 v.f2 (i : Int)).f0.size : Int) := by omega
        have HE := Lib.hid (Bx.mk (c := c2) p2 gg)
        have HV := Lib.hid (HB.out.step (below_alloc (Below.refl _ _) (.cells #[.string (rd_T24 v.f2 (i : Int)).f0, .string (rd_T24 v.f2 (i : Int)).f1, .slice A2 (rd_T24 v.f2 (i : Int)).f2.length c2] 24)))
        have hsz : sized (rd_T24 v.f2 (i : Int)) := by rw [rd_get v.f2 i hil]; exact HK.out _ (List.getElem_mem hil)
        have hdr : (v.f2.take (attN v.f2)).drop i = rd_T24 v.f2 (i : Int) :: (v.f2.take (attN v.f2)).drop (i + 1) := by rw [rd_get v.f2 i hil, List.drop_eq_getElem_cons (by rw [List.length_take]; omega), List.getElem_take]
        have htk : v.f2.take (i + 1) = v.f2.take i ++ [rd_T24 v.f2 (i : Int)] := by rw [rd_get v.f2 i hil]; exact take_succ_at v.f2 i hil
        have hM2 := HM.out
        rw [hdr] at hM2
        simp only [attrsOk] at hM2
        rw [← htk] at hM2
        have HM2 := Lib.hid hM2
        clear hM2 hdr htk hta p2
        generalize rd_T24 v.f2 (i : Int) = el at *
        go_wp2_with fail
        clear x0 x1 x2 k0 k1 k2
        refine (out_name.calls (el.f0.extract 1 el.f0.size) _ (by rw [ByteArray.size_extract]; have := hsz.1; omega)).mono ?_
        rintro e w5 ⟨rfl, hb5⟩
        have HE5 := Lib.hid (HE.out.step hb5)
        have HV5 := Lib.hid (HV.out.step hb5)
        clear hb5
        rw [show (el.f0.extract 1 el.f0.size).data.toList = atL el by rw [B.ext_list]; unfold atL; rw [List.take_of_length_le (by simp)]]
        obtain ⟨x0, x1, x2, _, d5, g5⟩ := HE5.out
        obtain ⟨y0, y1, y2, _, cv5, _⟩ := HV5.out
        cases hnm : nameB (atL el) with
        | false =>
         go_wp2_with fail
         go_ret
         exact ⟨by rw [HM2.out]; simp [attrOk, hnm], HV5.out.2.2.2.1⟩
        | true =>
         by_cases hx : el.f0.toList = [64, 120, 109, 108, 110, 115]
         ·
          have hxb : (el.f0.toList == [64, 120, 109, 108, 110, 115]) = true := beq_iff_eq.2 hx
          go_wp2_with fail
          go_ret
          refine ⟨?_, HV5.out.2.2.2.1⟩
          rw [HM2.out]
          rw [Lib.toList_data] at hxb
          simp only [attrOk, hxb]
          simp
         ·
          have hxb : (el.f0.toList == [64, 120, 109, 108, 110, 115]) = false := beq_eq_false_iff_ne.2 hx
          go_wp2_with fail
          refine (good46 el.f1 w5 hsz.2.1 g5).mono ?_
          rintro e w6 ⟨rfl, hb6⟩
          have HE6 := Lib.hid (HE5.out.step hb6)
          have HV6 := Lib.hid (HV5.out.step hb6)
          clear hb6 x0 x1 x2 y0 y1 y2 d5 cv5 g5
          obtain ⟨x0, x1, x2, _, d6, g6⟩ := HE6.out
          obtain ⟨y0, y1, y2, _, cv6, _⟩ := HV6.out
          rw [Lib.toList_data] at hxb
          cases hge : goodB el.f1.data.toList with
          | false =>
           go_wp2_with fail
           go_ret
           refine ⟨?_, HV6.out.2.2.2.1⟩
           rw [HM2.out]
           simp only [attrOk, hge]
           simp
          | true =>
           by_cases hkd : el.f2.length = 0
           ·
            have hkb : decide ((0 : Int) < (el.f2.length : Int)) = false := decide_eq_false (by omega)
            go_wp2_with fail
            refine (has87 wr.heap.size el.f0 _ (v.f2.take i) w6 x0 (some ad) c (by first | rw [List.length_take, Nat.min_eq_left (by omega)] | (rw [List.length_take, Nat.min_eq_left (by omega)]; simp)) (by rw [List.length_take, Nat.min_eq_left (by omega)]; exact C_take cv6 i (by omega)) (by rw [List.length_take]; have := hs.2.2; omega)).mono ?_
            rintro e w7 ⟨rfl, hb7⟩
            have HE7 := Lib.hid (HE6.out.step hb7)
            have HV7 := Lib.hid (HV6.out.step hb7)
            clear hb7 x0 x1 x2 y0 y1 y2 d6 cv6 g6
            obtain ⟨x0, x1, x2, _, d7, g7⟩ := HE7.out
            obtain ⟨y0, y1, y2, _, cv7, _⟩ := HV7.out
            cases hdup : (v.f2.take i).any (fun x => x.f0.toList == el.f0.toList) with
            | true =>
             go_wp2_with fail
             go_ret
             refine ⟨?_, HV7.out.2.2.2.1⟩
             rw [HM2.out]
             simp only [Lib.toList_data] at hdup
             simp only [attrOk, hdup]
             simp
            | false =>
             go_wp2_with fail
             go_roundg (attN v.f2 - i)
             case measure => have := HKq.out; omega
             case rel =>
              refine ⟨i + 1, by go_num, by omega, ⟨by omega⟩, ⟨?_⟩, HV7⟩
              rw [HM2.out]
              simp only [Lib.toList_data] at hdup
              have hke : el.f2.isEmpty = true := by cases h : el.f2 with | nil => rfl | cons _ _ => rw [h] at hkd; cases hkd
              simp only [attrOk, hdup, hnm, hge, hxb, hke]
              simp
           ·
            have hkb : decide ((0 : Int) < (el.f2.length : Int)) = true := decide_eq_true (by omega)
            go_wp2_with fail
            go_ret
            refine ⟨?_, HV6.out.2.2.2.1⟩
            rw [HM2.out]
            have : el.f2.isEmpty = false := by cases h : el.f2 with | nil => rw [h] at hkd; exact absurd rfl hkd | cons _ _ => rfl
            simp only [attrOk, this]
            simp
       ·
        have hie : i = attN v.f2 := by omega
        subst hie
        go_wp2_with fail
        go_ret
        refine ⟨?_, HB.out.2.2.2.1⟩
        rw [HM.out, List.drop_of_length_le (by rw [List.length_take]; omega)]
        rfl
    ·
     have hte : v.f1.toList.isEmpty = false := by
      rw [Lib.toList_data]
      cases h : v.f1.data.toList with
      | nil => exact absurd (by rw [Lib.size_eq, h]; rfl) ht
      | cons _ _ => rfl
     go_wp2_with fail
     go_ret
     refine ⟨?_, HX3.out.2.2.2.1⟩
     have : v.f1.data.toList.isEmpty = false := by rw [← Lib.toList_data]; exact hte
     simp only [oneT, this, decide_eq_true g]
     simp
   ·
    have d19 : decide ((19 : Int) < (attN v.f2 : Int)) = true := decide_eq_true (by omega)
    go_wp2_with fail
    go_ret
    exact ⟨by simp [oneT, hgd, h19], HX3.out.2.2.2.1⟩
end Go.Proofs.YtknfpggiigncpaaGreatDoor.E
end
section
namespace Go.Proofs.YtknfpggiigncpaaGreatDoor.E
open Go.RowKit P B
open YtknfpggiigncpaaGreatDoorW.PrintWords
def partsT : Nat → Nat → S24 → List (Nat × S24)
 | 0, d, v => [(d, v)]
 | e + 1, d, v => (d, v) :: v.f2.flatMap (partsT e (d + 1))
def partB (x : Nat × S24) : Bool := attrB x.2 || (decide (x.1 ≤ 64) && oneT x.2)
theorem parts_all : ∀ (e d : Nat) (v : S24), e + d = 65 → (partsT e d v).all partB = allN e v
 | 0, d, v, h => by
  simp only [partsT, allN, partB, List.all_cons, List.all_nil]
  rw [decide_eq_false (by omega)]
  simp
 | e + 1, d, v, h => by
  simp only [partsT, allN, partB, List.all_cons, List.all_flatMap]
  rw [decide_eq_true (by omega), Bool.true_and]
  congr 1
  refine List.all_congr rfl fun k => ?_
  exact parts_all e (d + 1) k (by omega)
theorem flat_len : ∀ (l : List S24) (f : S24 → List (Nat × S24)), (∀ k ∈ l, (f k).length ≤ 1 + cntL k.f2) → (l.flatMap f).length ≤ cntL l
 | [], f, _ => by simp [cntL]
 | ⟨a, b, q⟩ :: l, f, h => by
  have h1 := h ⟨a, b, q⟩ List.mem_cons_self
  have h2 := flat_len l f (fun k hk => h k (List.mem_cons_of_mem _ hk))
  simp only [List.flatMap_cons, List.length_append, cntL] at *
  omega
theorem partsT_len : ∀ (e d : Nat) (v : S24), (partsT e d v).length ≤ 1 + cntL v.f2
 | 0, d, v => by simp [partsT]
 | e + 1, d, v => by
  have := flat_len v.f2 (partsT e (d + 1)) (fun k _ => partsT_len e (d + 1) k)
  simp only [partsT, List.length_cons]
  omega
theorem may_parts (v : S24) : mayP v = (!attrB v && (partsT 64 1 v).all partB) := by
 rw [parts_all 64 1 v rfl]
 rfl
end Go.Proofs.YtknfpggiigncpaaGreatDoor.E
end
