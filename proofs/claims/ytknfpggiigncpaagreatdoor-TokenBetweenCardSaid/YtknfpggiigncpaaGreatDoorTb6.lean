/- The law TokenBetween, walked: a short second text. -/
import Derived.Test.YtknfpggiigncpaaGreatDoorTb4
set_option linter.unusedVariables false
set_option linter.unusedSimpArgs false
namespace Go.Proofs.YtknfpggiigncpaaGreatDoor.C
open Go.RowKit Go.Proofs.YtknfpggiigncpaaGreatDoor.P Go.Proofs.YtknfpggiigncpaaGreatDoorW.PrintWords Go.Proofs.YtknfpggiigncpaaGreatDoorW.PrintLast Go.Proofs.YtknfpggiigncpaaGreatDoorW.PrintMore
set_option maxHeartbeats 60000000 in
set_option maxRecDepth 100000 in
theorem tb_short (s t : ByteArray) (w : World) (hs : s.size ≤ 140737488351232) (ht : t.size ≤ 140737488351232) (hG : Glob w) (hs1 : s.size ≤ 1000) (ht1 : t.size ≤ 1000) (g0 : 0 < t.size) (g1 : t.size ≤ 4) (h60 : t[0]'(by omega) = 60) : Calls Tryz.prog 5 #[.string s, .string t] w fun e w' => e = .returned (.bool true) ∧ Below w.heap.size w w' := by
  have gs : decide ((1000 : Int) < (s.size : Int)) = false := decide_eq_false (by omega)
  have gt : decide ((1000 : Int) < (t.size : Int)) = false := decide_eq_false (by omega)
  have hfs : token_Tokens.f s = some ((tokR s).1, (tokR s).2.1, (tokR s).2.2) := by
    unfold token_Tokens.f
    rw [if_pos (by omega)]
  have hft : token_Tokens.f t = some ((tokR t).1, (tokR t).2.1, (tokR t).2.2) := by
    unfold token_Tokens.f
    rw [if_pos (by omega)]
  have hbs := tokR_bounds2 s hs1
  have hbt := tokR_bounds2 t ht1
  have hnos := @tokR_no s
  have hnot := @tokR_no t
  have h2 := @two_texts s t (s ++ t) (by simp)
  have h3 := @three_texts s t (s ++ ⟨midB.toArray⟩ ++ t) (by simp [midB])
  have hz1 : ¬ (9223372036854775807 < s.size + 10) := by omega
  have hz2 : ¬ (9223372036854775807 < s.size + 10 + t.size) := by omega
  have hz3 : ¬ (9223372036854775807 < s.size + t.size) := by omega
  have k1 : decide ((0 : Int) < (t.size : Int)) = true := decide_eq_true (by omega)
  have k2 : decide ((4 : Int) < (t.size : Int)) = false := decide_eq_false (by omega)
  have hL : LtX t.data.toList := lt_of t (by omega) h60
  have hN : Lib.hasPrefix t.data.toList xmlP = false := by
    cases h : Lib.hasPrefix t.data.toList xmlP with
    | false => rfl
    | true => have := Lib.hasPrefix_le h; rw [← Lib.size_eq] at this; simp [xmlP] at this; omega
  have k3 : ((((t[0]'(by omega)).toNat : Nat) : Int) != 60) = false := by rw [h60]; rfl
  replace h2 := h2 hL hN
  replace h3 := h3 hL hN
  clear hL hN
  try clear h60
  have HFS := Lib.hid hfs
  have HFT := Lib.hid hft
  clear hfs hft
  generalize tokR s = Rs at *
  generalize tokR t = Rt at *
  obtain ⟨la, pa, ea⟩ := Rs
  obtain ⟨lb, pb, eb⟩ := Rt
  dsimp only at *
  have H2 := Lib.hid h2
  have H3 := Lib.hid h3
  have HNA := Lib.hid hnos
  have HNB := Lib.hid hnot
  have HBA := Lib.hid hbs
  have HBB := Lib.hid hbt
  clear h2 h3 hnos hnot hbs hbt
  by_cases he : ea = 0
  · subst he
    by_cases hf : eb = 0
    · subst hf
      go_enter Tryz.func5, Tryz.ntmps5
      go_wp2_with fail
      refine (token_Tokens.calls s _ _ _ _ HFS.out hG).mono ?_
      rintro e w1 ⟨v1, rfl, hS1, hb1⟩
      have HB := Aside0.mk hb1
      obtain ⟨A1, c1, rfl, hc1, hC1⟩ := Kd.S_reads hS1
      have HC1 := Lib.hid hC1
      clear hS1 hb1 hC1
      go_wp2_with fail
      refine (token_Tokens.calls t _ _ _ _ HFT.out (hG.below HB.out)).mono ?_
      rintro e w2 ⟨v2, rfl, hS2, hb2⟩
      replace HC1 := Lib.hid (Kd.C_below HC1.out hb2)
      replace HB := Aside0.mk (HB.out.trans (hb2.mono HB.out.size))
      obtain ⟨A2, c2, rfl, hc2, hC2⟩ := Kd.S_reads hS2
      have HC2 := Lib.hid hC2
      clear hS2 hb2 hC2
      have hm : (⟨midB.toArray⟩ : ByteArray).size = 10 := rfl
      have hm2 : (⟨#[60, 33, 45, 45, 32, 45, 32, 45, 45, 62]⟩ : ByteArray).size = 10 := rfl
      have h2 := H2.out (by simp) (by simp) (by rw [ByteArray.size_append]; omega)
      have h3 := H3.out (by simp) (by simp) (by rw [ByteArray.size_append, ByteArray.size_append, hm]; omega)
      have hfd : token_Tokens.f (s ++ t) = some (la ++ lb.map (mvT s.size), ((s ++ t).size : Int), 0) := by
        unfold token_Tokens.f
        rw [if_pos (by rw [ByteArray.size_append]; omega), h2.1]
      have hfc : token_Tokens.f (s ++ ⟨#[60, 33, 45, 45, 32, 45, 32, 45, 45, 62]⟩ ++ t) = some (la ++ lb.map (mvT (s.size + 10)), ((s ++ ⟨#[60, 33, 45, 45, 32, 45, 32, 45, 45, 62]⟩ ++ t).size : Int), 0) := by
        unfold token_Tokens.f
        rw [if_pos (by rw [ByteArray.size_append, ByteArray.size_append, hm2]; omega)]
        exact congrArg some h3.1
      have HFD := Lib.hid hfd
      have HFC := Lib.hid hfc
      have HROW := Lib.hid h3.2
      clear h2 h3 hfd hfc hm hm2 H2 H3
      have hl3 : (la ++ lb.map (mvT (s.size + 10))).length = la.length + lb.length := by simp
      have hl4 : (la ++ lb.map (mvT s.size)).length = la.length + lb.length := by simp
      obtain ⟨lc, hlc⟩ : ∃ lc, la ++ lb.map (mvT (s.size + 10)) = lc := ⟨_, rfl⟩
      obtain ⟨ld, hld⟩ : ∃ ld, la ++ lb.map (mvT s.size) = ld := ⟨_, rfl⟩
      obtain ⟨N, hN⟩ : ∃ N, la.length + lb.length = N := ⟨_, rfl⟩
      rw [hlc] at hl3 HROW HFC
      rw [hld] at hl4 HFD
      rw [hN] at hl3 hl4
      have HLC := Lib.hid hlc
      have HLD := Lib.hid hld
      have HN := Lib.hid hN
      have HL3 := Lib.hid hl3
      have HL4 := Lib.hid hl4
      have kla : la.length ≤ 3000 := HBA.out.1
      have klb : lb.length ≤ 3000 := HBB.out.1
      have kN1 : ((la.length : Int) + (lb.length : Int)) = (N : Int) := by omega
      have kN2 : N ≤ 6000 := by omega
      clear hlc hld hN hl3 hl4
      go_wp2_with fail
      refine (token_Tokens.calls _ _ _ _ _ HFC.out (hG.below HB.out)).mono ?_
      rintro e w3 ⟨v3, rfl, hS3, hb3⟩
      replace HC1 := Lib.hid (Kd.C_below HC1.out hb3)
      replace HC2 := Lib.hid (Kd.C_below HC2.out hb3)
      replace HB := Aside0.mk (HB.out.trans (hb3.mono HB.out.size))
      obtain ⟨A3, c3, rfl, hc3, hC3⟩ := Kd.S_reads hS3
      rw [HL3.out] at hc3 hC3 ⊢
      have HC3 := Lib.hid hC3
      clear hS3 hb3 hC3
      go_wp2_with fail
      refine (token_Tokens.calls _ _ _ _ _ HFD.out (hG.below HB.out)).mono ?_
      rintro e w4 ⟨v4, rfl, hS4, hb4⟩
      replace HC1 := Lib.hid (Kd.C_below HC1.out hb4)
      replace HC2 := Lib.hid (Kd.C_below HC2.out hb4)
      replace HC3 := Lib.hid (Kd.C_below HC3.out hb4)
      replace HB := Aside0.mk (HB.out.trans (hb4.mono HB.out.size))
      obtain ⟨A4, c4, rfl, hc4, hC4⟩ := Kd.S_reads hS4
      rw [HL4.out] at hc4 hC4 ⊢
      have HC4 := Lib.hid hC4
      clear hS4 hb4 hC4
      clear HFS HFT HFC HFD
      go_wp2_with fail
      go_loopg [18] (N + 1) (fun kq v18 wr => ∃ i : Nat, v18 = .int .i64 i ∧ i ≤ N ∧ Aside0 (kq + i = N + 1) ∧ ∃ w1 m, wr = w1.drewN m ∧ Aside0 (Below w4.heap.size w4 w1))
      case atStart => exact ⟨0, rfl, Nat.zero_le _, ⟨by omega⟩, w4, 0, rfl, ⟨Below.refl _ _⟩⟩
      case round =>
        obtain ⟨i, rfl, hi, HK, wb, m, rfl, HBw⟩ := hrel
        by_cases h : i < N
        · obtain ⟨ad, A3x, c3x, e, hx0, hx1, hx2, hx3, hx4, hx5, hlx, hix⟩ := at_T44 HC3.out (i : Int) (by omega) (by omega)
          obtain ⟨bd, B3x, d3x, f, hy0, hy1, hy2, hy3, hy4, hy5, hly, hiy⟩ := at_T44 HC4.out (i : Int) (by omega) (by omega)
          cases e
          cases f
          simp only [Int.toNat_natCast] at hx0 hx1 hx2 hx3 hx4 hx5 hlx hix hy0 hy1 hy2 hy3 hy4 hy5 hly hiy
          obtain ⟨x, hx⟩ : ∃ x, rd_T44 lc (i : Int) = x := ⟨_, rfl⟩
          obtain ⟨y, hy⟩ : ∃ y, rd_T44 ld (i : Int) = y := ⟨_, rfl⟩
          rw [hx] at hx0 hx1 hx2 hx3 hx4 hx5 hlx hix
          rw [hy] at hy0 hy1 hy2 hy3 hy4 hy5 hly hiy
          have HX := Lib.hid hx
          have HY := Lib.hid hy
          have HI := Lib.hid hix
          have HJ := Lib.hid hiy
          clear hx hy hix hiy
          replace hx0 := (HBw.out.cell (World.block_lt_of_cell? w4 _ hx0)).trans hx0
          replace hx1 := (HBw.out.cell (World.block_lt_of_cell? w4 _ hx1)).trans hx1
          replace hx2 := (HBw.out.cell (World.block_lt_of_cell? w4 _ hx2)).trans hx2
          replace hx3 := (HBw.out.cell (World.block_lt_of_cell? w4 _ hx3)).trans hx3
          replace hx4 := (HBw.out.cell (World.block_lt_of_cell? w4 _ hx4)).trans hx4
          replace hx5 := (HBw.out.cell (World.block_lt_of_cell? w4 _ hx5)).trans hx5
          replace hy0 := (HBw.out.cell (World.block_lt_of_cell? w4 _ hy0)).trans hy0
          replace hy1 := (HBw.out.cell (World.block_lt_of_cell? w4 _ hy1)).trans hy1
          replace hy2 := (HBw.out.cell (World.block_lt_of_cell? w4 _ hy2)).trans hy2
          replace hy3 := (HBw.out.cell (World.block_lt_of_cell? w4 _ hy3)).trans hy3
          replace hy4 := (HBw.out.cell (World.block_lt_of_cell? w4 _ hy4)).trans hy4
          replace hy5 := (HBw.out.cell (World.block_lt_of_cell? w4 _ hy5)).trans hy5
          go_wp2_with fail
          refine reg_three (updG i N c3 c4 ad bd (.agg #[.int .u8 x.f0, .string x.f1, .string x.f2, .slice A3x x.f3.length c3x, .bool x.f4, .int .i64 x.f5]) (.agg #[.int .u8 y.f0, .string y.f1, .string y.f2, .slice B3x y.f3.length d3x, .bool y.f4, .int .i64 y.f5]) (.agg #[.int .u8 0, .string ⟨#[]⟩, .string ⟨#[]⟩, .slice none 0 0, .bool false, .int .i64 0])) (fun w2 gx gy gz => Three wb w2 gx gy gz x y A3x B3x c3x d3x) ?_ ?_
          · intro hQ
            simp only [updG, List.setIfInBounds_toArray, List.set_cons_zero, List.set_cons_succ] at hQ
            have HQ := Lib.hid hQ
            clear hQ
            have L1 : (ad.add (i * 6)).block < wb.heap.size := World.block_lt_of_cell? wb _ hx0
            have L2 : (bd.add (i * 6)).block < wb.heap.size := World.block_lt_of_cell? wb _ hy0
            have P0 := fun i => new_cell (wb.drewN (m + 1)) #[.int .u8 0, .string ⟨#[]⟩, .string ⟨#[]⟩, .slice none 0 0, .bool false, .int .i64 0] 44 (wb.heap.size) (by simp) i
            have p0a := fun i => (P0 i).1
            have p0b := fun i => (P0 i).2
            clear P0
            have P1 := fun i => new_cell ((wb.drewN (m + 1)).alloc (.cells #[.int .u8 0, .string ⟨#[]⟩, .string ⟨#[]⟩, .slice none 0 0, .bool false, .int .i64 0] 44)) #[.int .u8 0, .string ⟨#[]⟩, .string ⟨#[]⟩, .slice none 0 0, .bool false, .int .i64 0] 44 (wb.heap.size + 1) (by simp) i
            have p1a := fun i => (P1 i).1
            have p1b := fun i => (P1 i).2
            clear P1
            have P2 := fun i => new_cell ((((((((wb.drewN (m + 1)).alloc (.cells #[.int .u8 0, .string ⟨#[]⟩, .string ⟨#[]⟩, .slice none 0 0, .bool false, .int .i64 0] 44)).setCell ⟨wb.heap.size, 0, none⟩ (.int .u8 x.f0)).setCell ⟨wb.heap.size, 1, none⟩ (.string x.f1)).setCell ⟨wb.heap.size, 2, none⟩ (.string x.f2)).setCell ⟨wb.heap.size, 3, none⟩ (.slice A3x x.f3.length c3x)).setCell ⟨wb.heap.size, 4, none⟩ (.bool x.f4)).setCell ⟨wb.heap.size, 5, none⟩ (.int .i64 x.f5)) #[.int .u8 0, .string ⟨#[]⟩, .string ⟨#[]⟩, .slice none 0 0, .bool false, .int .i64 0] 44 (wb.heap.size + 1) (by simp) i
            have p2a := fun i => (P2 i).1
            have p2b := fun i => (P2 i).2
            clear P2
            have P3 := fun i => new_cell ((((((((wb.drewN (m + 1)).alloc (.cells #[.int .u8 0, .string ⟨#[]⟩, .string ⟨#[]⟩, .slice none 0 0, .bool false, .int .i64 0] 44)).setCell ⟨wb.heap.size, 0, none⟩ (.int .u8 y.f0)).setCell ⟨wb.heap.size, 1, none⟩ (.string y.f1)).setCell ⟨wb.heap.size, 2, none⟩ (.string y.f2)).setCell ⟨wb.heap.size, 3, none⟩ (.slice B3x y.f3.length d3x)).setCell ⟨wb.heap.size, 4, none⟩ (.bool y.f4)).setCell ⟨wb.heap.size, 5, none⟩ (.int .i64 y.f5)) #[.int .u8 0, .string ⟨#[]⟩, .string ⟨#[]⟩, .slice none 0 0, .bool false, .int .i64 0] 44 (wb.heap.size + 1) (by simp) i
            have p3a := fun i => (P3 i).1
            have p3b := fun i => (P3 i).2
            clear P3
            have P4 := fun i => new_cell (((wb.drewN (m + 1)).alloc (.cells #[.int .u8 0, .string ⟨#[]⟩, .string ⟨#[]⟩, .slice none 0 0, .bool false, .int .i64 0] 44)).alloc (.cells #[.int .u8 0, .string ⟨#[]⟩, .string ⟨#[]⟩, .slice none 0 0, .bool false, .int .i64 0] 44)) #[.int .u8 0, .string ⟨#[]⟩, .string ⟨#[]⟩, .slice none 0 0, .bool false, .int .i64 0] 44 (wb.heap.size + 1 + 1) (by simp) i
            have p4a := fun i => (P4 i).1
            have p4b := fun i => (P4 i).2
            clear P4
            have P5 := fun i => new_cell (((((((((wb.drewN (m + 1)).alloc (.cells #[.int .u8 0, .string ⟨#[]⟩, .string ⟨#[]⟩, .slice none 0 0, .bool false, .int .i64 0] 44)).setCell ⟨wb.heap.size, 0, none⟩ (.int .u8 x.f0)).setCell ⟨wb.heap.size, 1, none⟩ (.string x.f1)).setCell ⟨wb.heap.size, 2, none⟩ (.string x.f2)).setCell ⟨wb.heap.size, 3, none⟩ (.slice A3x x.f3.length c3x)).setCell ⟨wb.heap.size, 4, none⟩ (.bool x.f4)).setCell ⟨wb.heap.size, 5, none⟩ (.int .i64 x.f5)).alloc (.cells #[.int .u8 0, .string ⟨#[]⟩, .string ⟨#[]⟩, .slice none 0 0, .bool false, .int .i64 0] 44)) #[.int .u8 0, .string ⟨#[]⟩, .string ⟨#[]⟩, .slice none 0 0, .bool false, .int .i64 0] 44 (wb.heap.size + 1 + 1) (by simp) i
            have p5a := fun i => (P5 i).1
            have p5b := fun i => (P5 i).2
            clear P5
            have P6 := fun i => new_cell (((((((((wb.drewN (m + 1)).alloc (.cells #[.int .u8 0, .string ⟨#[]⟩, .string ⟨#[]⟩, .slice none 0 0, .bool false, .int .i64 0] 44)).alloc (.cells #[.int .u8 0, .string ⟨#[]⟩, .string ⟨#[]⟩, .slice none 0 0, .bool false, .int .i64 0] 44)).setCell ⟨(wb.heap.size + 1), 0, none⟩ (.int .u8 x.f0)).setCell ⟨(wb.heap.size + 1), 1, none⟩ (.string x.f1)).setCell ⟨(wb.heap.size + 1), 2, none⟩ (.string x.f2)).setCell ⟨(wb.heap.size + 1), 3, none⟩ (.slice A3x x.f3.length c3x)).setCell ⟨(wb.heap.size + 1), 4, none⟩ (.bool x.f4)).setCell ⟨(wb.heap.size + 1), 5, none⟩ (.int .i64 x.f5)) #[.int .u8 0, .string ⟨#[]⟩, .string ⟨#[]⟩, .slice none 0 0, .bool false, .int .i64 0] 44 (wb.heap.size + 1 + 1) (by simp) i
            have p6a := fun i => (P6 i).1
            have p6b := fun i => (P6 i).2
            clear P6
            have P7 := fun i => new_cell (((((((((((((((wb.drewN (m + 1)).alloc (.cells #[.int .u8 0, .string ⟨#[]⟩, .string ⟨#[]⟩, .slice none 0 0, .bool false, .int .i64 0] 44)).setCell ⟨wb.heap.size, 0, none⟩ (.int .u8 x.f0)).setCell ⟨wb.heap.size, 1, none⟩ (.string x.f1)).setCell ⟨wb.heap.size, 2, none⟩ (.string x.f2)).setCell ⟨wb.heap.size, 3, none⟩ (.slice A3x x.f3.length c3x)).setCell ⟨wb.heap.size, 4, none⟩ (.bool x.f4)).setCell ⟨wb.heap.size, 5, none⟩ (.int .i64 x.f5)).alloc (.cells #[.int .u8 0, .string ⟨#[]⟩, .string ⟨#[]⟩, .slice none 0 0, .bool false, .int .i64 0] 44)).setCell ⟨(wb.heap.size + 1), 0, none⟩ (.int .u8 y.f0)).setCell ⟨(wb.heap.size + 1), 1, none⟩ (.string y.f1)).setCell ⟨(wb.heap.size + 1), 2, none⟩ (.string y.f2)).setCell ⟨(wb.heap.size + 1), 3, none⟩ (.slice B3x y.f3.length d3x)).setCell ⟨(wb.heap.size + 1), 4, none⟩ (.bool y.f4)).setCell ⟨(wb.heap.size + 1), 5, none⟩ (.int .i64 y.f5)) #[.int .u8 0, .string ⟨#[]⟩, .string ⟨#[]⟩, .slice none 0 0, .bool false, .int .i64 0] 44 (wb.heap.size + 1 + 1) (by simp) i
            have p7a := fun i => (P7 i).1
            have p7b := fun i => (P7 i).2
            clear P7
            have P8 := fun i => new_cell (((((((((((((((wb.drewN (m + 1)).alloc (.cells #[.int .u8 0, .string ⟨#[]⟩, .string ⟨#[]⟩, .slice none 0 0, .bool false, .int .i64 0] 44)).setCell ⟨wb.heap.size, 0, none⟩ (.int .u8 y.f0)).setCell ⟨wb.heap.size, 1, none⟩ (.string y.f1)).setCell ⟨wb.heap.size, 2, none⟩ (.string y.f2)).setCell ⟨wb.heap.size, 3, none⟩ (.slice B3x y.f3.length d3x)).setCell ⟨wb.heap.size, 4, none⟩ (.bool y.f4)).setCell ⟨wb.heap.size, 5, none⟩ (.int .i64 y.f5)).alloc (.cells #[.int .u8 0, .string ⟨#[]⟩, .string ⟨#[]⟩, .slice none 0 0, .bool false, .int .i64 0] 44)).setCell ⟨(wb.heap.size + 1), 0, none⟩ (.int .u8 x.f0)).setCell ⟨(wb.heap.size + 1), 1, none⟩ (.string x.f1)).setCell ⟨(wb.heap.size + 1), 2, none⟩ (.string x.f2)).setCell ⟨(wb.heap.size + 1), 3, none⟩ (.slice A3x x.f3.length c3x)).setCell ⟨(wb.heap.size + 1), 4, none⟩ (.bool x.f4)).setCell ⟨(wb.heap.size + 1), 5, none⟩ (.int .i64 x.f5)) #[.int .u8 0, .string ⟨#[]⟩, .string ⟨#[]⟩, .slice none 0 0, .bool false, .int .i64 0] 44 (wb.heap.size + 1 + 1) (by simp) i
            have p8a := fun i => (P8 i).1
            have p8b := fun i => (P8 i).2
            clear P8
            go_region_held3 (fun w' => w'.cell? (ad.add (i * 6)) = some (.int .u8 x.f0) ∧ w'.cell? ⟨(ad.add (i * 6)).block, (ad.add (i * 6)).off + 1, none⟩ = some (.string x.f1) ∧ w'.cell? ⟨(ad.add (i * 6)).block, (ad.add (i * 6)).off + 2, none⟩ = some (.string x.f2) ∧ w'.cell? ⟨(ad.add (i * 6)).block, (ad.add (i * 6)).off + 3, none⟩ = some (.slice A3x x.f3.length c3x) ∧ w'.cell? ⟨(ad.add (i * 6)).block, (ad.add (i * 6)).off + 4, none⟩ = some (.bool x.f4) ∧ w'.cell? ⟨(ad.add (i * 6)).block, (ad.add (i * 6)).off + 5, none⟩ = some (.int .i64 x.f5) ∧ w'.cell? (bd.add (i * 6)) = some (.int .u8 y.f0) ∧ w'.cell? ⟨(bd.add (i * 6)).block, (bd.add (i * 6)).off + 1, none⟩ = some (.string y.f1) ∧ w'.cell? ⟨(bd.add (i * 6)).block, (bd.add (i * 6)).off + 2, none⟩ = some (.string y.f2) ∧ w'.cell? ⟨(bd.add (i * 6)).block, (bd.add (i * 6)).off + 3, none⟩ = some (.slice B3x y.f3.length d3x) ∧ w'.cell? ⟨(bd.add (i * 6)).block, (bd.add (i * 6)).off + 4, none⟩ = some (.bool y.f4) ∧ w'.cell? ⟨(bd.add (i * 6)).block, (bd.add (i * 6)).off + 5, none⟩ = some (.int .i64 y.f5)) ((refine (fun (hB : Below wb.heap.size wb _) => ⟨below_p hB hx0 L1, below_p hB hx1 L1, below_p hB hx2 L1, below_p hB hx3 L1, below_p hB hx4 L1, below_p hB hx5 L1, below_p hB hy0 L2, below_p hB hy1 L2, below_p hB hy2 L2, below_p hB hy3 L2, below_p hB hy4 L2, below_p hB hy5 L2⟩) ?_; repeat (first | with_reducible apply below_alloc | (with_reducible refine Below.setCell ?_ ?_ _; rotate_left; (dsimp only; omega)) | with_reducible apply pw_below_drewN | with_reducible apply below_drew | with_reducible exact Below.refl _ _))) (fail)
            all_goals
              clear L1 L2 hx0 hx1 hx2 hx3 hx4 hx5 hy0 hy1 hy2 hy3 hy4 hy5
            all_goals generalize hW : World.alloc _ _ = w2
            all_goals
              first
              | (with_reducible refine HQ.out wb.heap.size (wb.heap.size + 1) (wb.heap.size + 1 + 1) _ ?_
                 rw [← hW]
                 have hh := three_rows wb (m + 1) (.int .u8 x.f0) (.string x.f1) (.string x.f2) (.slice A3x x.f3.length c3x) (.bool x.f4) (.int .i64 x.f5) #[.int .u8 y.f0, .string y.f1, .string y.f2, .slice B3x y.f3.length d3x, .bool y.f4, .int .i64 y.f5] #[.int .u8 0, .string ⟨#[]⟩, .string ⟨#[]⟩, .slice none 0 0, .bool false, .int .i64 0]
                 exact ⟨hh.1, hh.2.1, hh.2.2.1, by omega, by omega, by omega, by omega, by omega, by omega, hh.2.2.2⟩)
              | (with_reducible refine HQ.out wb.heap.size (wb.heap.size + 1 + 1) (wb.heap.size + 1) _ ?_
                 rw [← hW]
                 have hh := three_rows wb (m + 1) (.int .u8 x.f0) (.string x.f1) (.string x.f2) (.slice A3x x.f3.length c3x) (.bool x.f4) (.int .i64 x.f5) #[.int .u8 0, .string ⟨#[]⟩, .string ⟨#[]⟩, .slice none 0 0, .bool false, .int .i64 0] #[.int .u8 y.f0, .string y.f1, .string y.f2, .slice B3x y.f3.length d3x, .bool y.f4, .int .i64 y.f5]
                 exact ⟨hh.1, hh.2.2.1, hh.2.1, by omega, by omega, by omega, by omega, by omega, by omega, hh.2.2.2⟩)
              | (with_reducible refine HQ.out (wb.heap.size + 1) wb.heap.size (wb.heap.size + 1 + 1) _ ?_
                 rw [← hW]
                 have hh := three_rows wb (m + 1) (.int .u8 y.f0) (.string y.f1) (.string y.f2) (.slice B3x y.f3.length d3x) (.bool y.f4) (.int .i64 y.f5) #[.int .u8 x.f0, .string x.f1, .string x.f2, .slice A3x x.f3.length c3x, .bool x.f4, .int .i64 x.f5] #[.int .u8 0, .string ⟨#[]⟩, .string ⟨#[]⟩, .slice none 0 0, .bool false, .int .i64 0]
                 exact ⟨hh.2.1, hh.1, hh.2.2.1, by omega, by omega, by omega, by omega, by omega, by omega, hh.2.2.2⟩)
              | (with_reducible refine HQ.out (wb.heap.size + 1 + 1) wb.heap.size (wb.heap.size + 1) _ ?_
                 rw [← hW]
                 have hh := three_rows wb (m + 1) (.int .u8 y.f0) (.string y.f1) (.string y.f2) (.slice B3x y.f3.length d3x) (.bool y.f4) (.int .i64 y.f5) #[.int .u8 0, .string ⟨#[]⟩, .string ⟨#[]⟩, .slice none 0 0, .bool false, .int .i64 0] #[.int .u8 x.f0, .string x.f1, .string x.f2, .slice A3x x.f3.length c3x, .bool x.f4, .int .i64 x.f5]
                 exact ⟨hh.2.2.1, hh.1, hh.2.1, by omega, by omega, by omega, by omega, by omega, by omega, hh.2.2.2⟩)
              | (with_reducible refine HQ.out (wb.heap.size + 1) (wb.heap.size + 1 + 1) wb.heap.size _ ?_
                 rw [← hW]
                 have hh := three_rows wb (m + 1) (.int .u8 0) (.string ⟨#[]⟩) (.string ⟨#[]⟩) (.slice none 0 0) (.bool false) (.int .i64 0) #[.int .u8 x.f0, .string x.f1, .string x.f2, .slice A3x x.f3.length c3x, .bool x.f4, .int .i64 x.f5] #[.int .u8 y.f0, .string y.f1, .string y.f2, .slice B3x y.f3.length d3x, .bool y.f4, .int .i64 y.f5]
                 exact ⟨hh.2.1, hh.2.2.1, hh.1, by omega, by omega, by omega, by omega, by omega, by omega, hh.2.2.2⟩)
              | (with_reducible refine HQ.out (wb.heap.size + 1 + 1) (wb.heap.size + 1) wb.heap.size _ ?_
                 rw [← hW]
                 have hh := three_rows wb (m + 1) (.int .u8 0) (.string ⟨#[]⟩) (.string ⟨#[]⟩) (.slice none 0 0) (.bool false) (.int .i64 0) #[.int .u8 y.f0, .string y.f1, .string y.f2, .slice B3x y.f3.length d3x, .bool y.f4, .int .i64 y.f5] #[.int .u8 x.f0, .string x.f1, .string x.f2, .slice A3x x.f3.length c3x, .bool x.f4, .int .i64 x.f5]
                 exact ⟨hh.2.2.1, hh.2.1, hh.1, by omega, by omega, by omega, by omega, by omega, by omega, hh.2.2.2⟩)
          · clear hx0 hx1 hx2 hx3 hx4 hx5 hy0 hy1 hy2 hy3 hy4 hy5
            rintro w2 gx gy gz ⟨hX, hY, hZ, n1, n2, n3, l1, l2, l3, hB⟩
            simp only [updG, List.setIfInBounds_toArray, List.set_cons_zero, List.set_cons_succ]
            have HBx := Aside0.mk (HBw.out.trans (hB.mono HBw.out.size))
            have xg : gx < w2.heap.size := (Array.getElem?_eq_some_iff.1 hX).1
            have yg : gy < w2.heap.size := (Array.getElem?_eq_some_iff.1 hY).1
            have zg : gz < w2.heap.size := (Array.getElem?_eq_some_iff.1 hZ).1
            have m1 := Ne.symm n1
            have m2 := Ne.symm n2
            have m3 := Ne.symm n3
            have fx := fun j => frozen_of_row _ gx j _ _ hX
            have fy := fun j => frozen_of_row _ gy j _ _ hY
            have fz := fun j => frozen_of_row _ gz j _ _ hZ
            have x0 := cell_of_row _ gx 0 _ _ _ hX
            have x1 := cell_of_row _ gx 1 _ _ _ hX
            have x2 := cell_of_row _ gx 2 _ _ _ hX
            have x3 := cell_of_row _ gx 3 _ _ _ hX
            have x4 := cell_of_row _ gx 4 _ _ _ hX
            have x5 := cell_of_row _ gx 5 _ _ _ hX
            have y0 := cell_of_row _ gy 0 _ _ _ hY
            have y1 := cell_of_row _ gy 1 _ _ _ hY
            have y2 := cell_of_row _ gy 2 _ _ _ hY
            have y3 := cell_of_row _ gy 3 _ _ _ hY
            have y4 := cell_of_row _ gy 4 _ _ _ hY
            have y5 := cell_of_row _ gy 5 _ _ _ hY
            have z0 := cell_of_row _ gz 0 _ _ _ hZ
            have z1 := cell_of_row _ gz 1 _ _ _ hZ
            have z2 := cell_of_row _ gz 2 _ _ _ hZ
            have z3 := cell_of_row _ gz 3 _ _ _ hZ
            have z4 := cell_of_row _ gz 4 _ _ _ hZ
            have z5 := cell_of_row _ gz 5 _ _ _ hZ
            simp only [List.getElem?_toArray, List.getElem?_cons_zero, List.getElem?_cons_succ] at x0 x1 x2 x3 x4 x5 y0 y1 y2 y3 y4 y5 z0 z1 z2 z3 z4 z5
            have HZ := Lib.hid hZ
            have hXX := Lib.hid hX
            have hYY := Lib.hid hY
            clear hX hY hZ hB
            by_cases hia : i < la.length
            · have kia : decide ((i : Int) < (la.length : Int)) = true := decide_eq_true (by omega)
              obtain ⟨ed, E3, e3, e, hu0, hu1, hu2, hu3, hu4, hu5, hlu, hiu⟩ := at_T44 HC1.out (i : Int) (by omega) (by omega)
              cases e
              simp only [Int.toNat_natCast] at hu0 hu1 hu2 hu3 hu4 hu5 hlu hiu
              have hxu : x = rd_T44 la (i : Int) := by rw [← HX.out, ← HLC.out]; exact rd_left la _ i hia
              have hyu : y = rd_T44 la (i : Int) := by rw [← HY.out, ← HLD.out]; exact rd_left la _ i hia
              have huf : (rd_T44 la (i : Int)).f3.length ≤ 3000 := HBA.out.2 _ (rd_mem la i hia)
              clear HX HY
              subst hxu
              subst hyu
              generalize rd_T44 la (i : Int) = u at *
              replace hu0 := (HBx.out.cell (World.block_lt_of_cell? w4 _ hu0)).trans hu0
              replace hu1 := (HBx.out.cell (World.block_lt_of_cell? w4 _ hu1)).trans hu1
              replace hu2 := (HBx.out.cell (World.block_lt_of_cell? w4 _ hu2)).trans hu2
              replace hu3 := (HBx.out.cell (World.block_lt_of_cell? w4 _ hu3)).trans hu3
              replace hu4 := (HBx.out.cell (World.block_lt_of_cell? w4 _ hu4)).trans hu4
              replace hu5 := (HBx.out.cell (World.block_lt_of_cell? w4 _ hu5)).trans hu5
              have HU := Lib.hid hiu
              clear hiu
              go_wp2_with fail
              generalize hw5 : World.setCell _ _ _ = w5
              have BX : Box44 w5 gx u A3x c3x := by rw [← hw5]; exact box_far m2 (hXX.out)
              have BY : Box44 w5 gy u B3x d3x := by rw [← hw5]; exact box_far m3 (hYY.out)
              have BZ : Box44 w5 gz u E3 e3 := by rw [← hw5]; exact row6 HZ.out _ _ _ _ _ _
              have HB5 : Below w4.heap.size w4 w5 := by rw [← hw5]; exact below63 _ _ _ _ _ _ HBx.out (by have := HBw.out.size; omega)
              clear hw5 hu0 hu1 hu2 hu3 hu4 hu5
              clear x0 x1 x2 x3 x4 x5 y0 y1 y2 y3 y4 y5 z0 z1 z2 z3 z4 z5 fx fy fz
              have x0 := cell_of_row _ gx 0 _ _ _ BX
              have x1 := cell_of_row _ gx 1 _ _ _ BX
              have x2 := cell_of_row _ gx 2 _ _ _ BX
              have x3 := cell_of_row _ gx 3 _ _ _ BX
              have x4 := cell_of_row _ gx 4 _ _ _ BX
              have x5 := cell_of_row _ gx 5 _ _ _ BX
              have y0 := cell_of_row _ gy 0 _ _ _ BY
              have y1 := cell_of_row _ gy 1 _ _ _ BY
              have y2 := cell_of_row _ gy 2 _ _ _ BY
              have y3 := cell_of_row _ gy 3 _ _ _ BY
              have y4 := cell_of_row _ gy 4 _ _ _ BY
              have y5 := cell_of_row _ gy 5 _ _ _ BY
              have z0 := cell_of_row _ gz 0 _ _ _ BZ
              have z1 := cell_of_row _ gz 1 _ _ _ BZ
              have z2 := cell_of_row _ gz 2 _ _ _ BZ
              have z3 := cell_of_row _ gz 3 _ _ _ BZ
              have z4 := cell_of_row _ gz 4 _ _ _ BZ
              have z5 := cell_of_row _ gz 5 _ _ _ BZ
              simp only [List.getElem?_toArray, List.getElem?_cons_zero, List.getElem?_cons_succ] at x0 x1 x2 x3 x4 x5 y0 y1 y2 y3 y4 y5 z0 z1 z2 z3 z4 z5
              have q1 := Kd.C_below HI.out HB5
              have q2 := Kd.C_below HJ.out HB5
              have q3 := Kd.C_below HU.out HB5
              clear BX BY BZ
              by_cases hi0 : i = 0
              · have kz : decide ((0 : Int) < (i : Int)) = false := decide_eq_false (by omega)
                have kz2 : decide (0 < i) = false := decide_eq_false (by omega)
                have kz3 : ¬ 0 < i := by omega
                clear hi0
                refine wp_region_noPanic ?_
                refine wp_region_held_drew (S := fun w' => (Kd.C k77 w' A3x u.f3.length u.f3 ∧ Kd.C k77 w' B3x u.f3.length u.f3 ∧ Kd.C k77 w' E3 u.f3.length u.f3 ∧ Below w4.heap.size w4 w') ∧ w'.cell? ⟨gx, 0, none⟩ = some (.int .u8 u.f0) ∧ w'.cell? ⟨gx, 1, none⟩ = some (.string u.f1) ∧ w'.cell? ⟨gx, 2, none⟩ = some (.string u.f2) ∧ w'.cell? ⟨gx, 3, none⟩ = some (.slice A3x u.f3.length c3x) ∧ w'.cell? ⟨gx, 4, none⟩ = some (.bool u.f4) ∧ w'.cell? ⟨gx, 5, none⟩ = some (.int .i64 u.f5) ∧ w'.cell? ⟨gy, 0, none⟩ = some (.int .u8 u.f0) ∧ w'.cell? ⟨gy, 1, none⟩ = some (.string u.f1) ∧ w'.cell? ⟨gy, 2, none⟩ = some (.string u.f2) ∧ w'.cell? ⟨gy, 3, none⟩ = some (.slice B3x u.f3.length d3x) ∧ w'.cell? ⟨gy, 4, none⟩ = some (.bool u.f4) ∧ w'.cell? ⟨gy, 5, none⟩ = some (.int .i64 u.f5) ∧ w'.cell? ⟨gz, 0, none⟩ = some (.int .u8 u.f0) ∧ w'.cell? ⟨gz, 1, none⟩ = some (.string u.f1) ∧ w'.cell? ⟨gz, 2, none⟩ = some (.string u.f2) ∧ w'.cell? ⟨gz, 3, none⟩ = some (.slice E3 u.f3.length e3) ∧ w'.cell? ⟨gz, 4, none⟩ = some (.bool u.f4) ∧ w'.cell? ⟨gz, 5, none⟩ = some (.int .i64 u.f5)) (by kernel_rfl) ?_ (fun hHeld => ?_)
                · (first | (refine ⟨⟨?_, ?_, ?_, ?_⟩, ?_, ?_, ?_, ?_, ?_, ?_, ?_, ?_, ?_, ?_, ?_, ?_, ?_, ?_, ?_, ?_, ?_, ?_⟩ <;> (first | assumption | exact below_q (by assumption) (by assumption) | exact C_keep (by assumption) (by assumption) | exact C_keep (by assumption) (C_keep (below_drew (Below.refl _ _)) (by assumption)) | exact C_keep (below_drew (Below.refl _ _)) (by assumption) | exact below_r (by assumption) (by assumption) | exact below_drew (by assumption) | exact below_r (by assumption) (below_drew (by assumption)))) | (obtain ⟨⟨_, _, _, _⟩, _, _, _, _, _, _, _, _, _, _, _, _, _, _, _, _, _, _⟩ := (by assumption : (Kd.C k77 _ A3x u.f3.length u.f3 ∧ Kd.C k77 _ B3x u.f3.length u.f3 ∧ Kd.C k77 _ E3 u.f3.length u.f3 ∧ _) ∧ _); refine ⟨⟨?_, ?_, ?_, ?_⟩, ?_, ?_, ?_, ?_, ?_, ?_, ?_, ?_, ?_, ?_, ?_, ?_, ?_, ?_, ?_, ?_, ?_, ?_⟩ <;> (first | assumption | exact below_q (by assumption) (by assumption) | exact C_keep (by assumption) (by assumption) | exact C_keep (by assumption) (C_keep (below_drew (Below.refl _ _)) (by assumption)) | exact C_keep (below_drew (Below.refl _ _)) (by assumption) | exact below_r (by assumption) (by assumption) | exact below_drew (by assumption) | exact below_r (by assumption) (below_drew (by assumption)))))
                refine wpAnyH_take (i := 0) (oi := ({ dst := some 185, op := Op.load 44 (Operand.tmp 19), type := 44, pos := "law.go:72", after := #[], guard := none } : Oper)) (v := ?_) rfl (by kernel_rfl) (by kernel_rfl) (by kernel_rfl) (fun _ _ _ h => h) (Or.inl ⟨by rfl, ?_⟩) (by assumption) ?_
                rotate_left
                · intro w hSw
                  try dsimp only at hSw
                  go_simp
                  try with_reducible rfl
                try simp only [Act.put, List.setIfInBounds_toArray, List.set_cons_zero, List.set_cons_succ]
                refine wpAnyH_take (i := 1) (oi := ({ dst := some 186, op := Op.load 44 (Operand.tmp 21), type := 44, pos := "law.go:72", after := #[], guard := none } : Oper)) (v := ?_) rfl (by kernel_rfl) (by kernel_rfl) (by kernel_rfl) (fun _ _ _ h => h) (Or.inl ⟨by rfl, ?_⟩) (by assumption) ?_
                rotate_left
                · intro w hSw
                  try dsimp only at hSw
                  go_simp
                  try with_reducible rfl
                try simp only [Act.put, List.setIfInBounds_toArray, List.set_cons_zero, List.set_cons_succ]
                refine wpAnyH_ready (rs := [2]) (by kernel_rfl) (by simp) ?_
                refine AllReadyH.cons (o := ({ dst := some 187, op := Op.call { callee := Callee.value (Operand.func 25), args := #[Operand.tmp 185, Operand.tmp 186], argTypes := #[44, 44] }, type := 4, pos := "law.go:72", after := #[{ on := 0, ground := Ground.data }, { on := 1, ground := Ground.data }], guard := none } : Oper)) rfl (fun K hK => ?_) ?_
                rotate_left
                · exact AllReadyH.nil
                go_simp
                refine (alike_any u _ _ _ _ _ ?_ ?_ (by omega)).mono ?_
                · (first | assumption | exact (by assumption : (Kd.C k77 _ A3x u.f3.length u.f3 ∧ Kd.C k77 _ B3x u.f3.length u.f3 ∧ Kd.C k77 _ E3 u.f3.length u.f3 ∧ _) ∧ _).1.1 | exact (by assumption : (Kd.C k77 _ A3x u.f3.length u.f3 ∧ Kd.C k77 _ B3x u.f3.length u.f3 ∧ Kd.C k77 _ E3 u.f3.length u.f3 ∧ _) ∧ _).1.2.1 | exact (by assumption : (Kd.C k77 _ A3x u.f3.length u.f3 ∧ Kd.C k77 _ B3x u.f3.length u.f3 ∧ Kd.C k77 _ E3 u.f3.length u.f3 ∧ _) ∧ _).1.2.2.1)
                · (first | assumption | exact (by assumption : (Kd.C k77 _ A3x u.f3.length u.f3 ∧ Kd.C k77 _ B3x u.f3.length u.f3 ∧ Kd.C k77 _ E3 u.f3.length u.f3 ∧ _) ∧ _).1.1 | exact (by assumption : (Kd.C k77 _ A3x u.f3.length u.f3 ∧ Kd.C k77 _ B3x u.f3.length u.f3 ∧ Kd.C k77 _ E3 u.f3.length u.f3 ∧ _) ∧ _).1.2.1 | exact (by assumption : (Kd.C k77 _ A3x u.f3.length u.f3 ∧ Kd.C k77 _ B3x u.f3.length u.f3 ∧ Kd.C k77 _ E3 u.f3.length u.f3 ∧ _) ∧ _).1.2.2.1)
                rintro e5 w7 ⟨rfl, hb7⟩
                go_wp2_with fail
                refine hK.out _ _ ?_ (fun hHeld => ?_)
                · (first | (refine ⟨⟨?_, ?_, ?_, ?_⟩, ?_, ?_, ?_, ?_, ?_, ?_, ?_, ?_, ?_, ?_, ?_, ?_, ?_, ?_, ?_, ?_, ?_, ?_⟩ <;> (first | assumption | exact below_q (by assumption) (by assumption) | exact C_keep (by assumption) (by assumption) | exact C_keep (by assumption) (C_keep (below_drew (Below.refl _ _)) (by assumption)) | exact C_keep (below_drew (Below.refl _ _)) (by assumption) | exact below_r (by assumption) (by assumption) | exact below_drew (by assumption) | exact below_r (by assumption) (below_drew (by assumption)))) | (obtain ⟨⟨_, _, _, _⟩, _, _, _, _, _, _, _, _, _, _, _, _, _, _, _, _, _, _⟩ := (by assumption : (Kd.C k77 _ A3x u.f3.length u.f3 ∧ Kd.C k77 _ B3x u.f3.length u.f3 ∧ Kd.C k77 _ E3 u.f3.length u.f3 ∧ _) ∧ _); refine ⟨⟨?_, ?_, ?_, ?_⟩, ?_, ?_, ?_, ?_, ?_, ?_, ?_, ?_, ?_, ?_, ?_, ?_, ?_, ?_, ?_, ?_, ?_, ?_⟩ <;> (first | assumption | exact below_q (by assumption) (by assumption) | exact C_keep (by assumption) (by assumption) | exact C_keep (by assumption) (C_keep (below_drew (Below.refl _ _)) (by assumption)) | exact C_keep (below_drew (Below.refl _ _)) (by assumption) | exact below_r (by assumption) (by assumption) | exact below_drew (by assumption) | exact below_r (by assumption) (below_drew (by assumption)))))
                clear hK K
                try simp only [Act.put, List.setIfInBounds_toArray, List.set_cons_zero, List.set_cons_succ]
                refine wpAnyH_take (i := 3) (oi := ({ dst := some 188, op := Op.unOp UnOp.not 4 (Operand.tmp 187), type := 4, pos := "law.go:72", after := #[{ on := 2, ground := Ground.data }], guard := none } : Oper)) (v := ?_) rfl (by kernel_rfl) (by kernel_rfl) (by kernel_rfl) (fun _ _ _ h => h) (Or.inl ⟨by rfl, ?_⟩) (by assumption) ?_
                rotate_left
                · intro w hSw
                  try dsimp only at hSw
                  go_simp
                  try with_reducible rfl
                try simp only [Act.put, List.setIfInBounds_toArray, List.set_cons_zero, List.set_cons_succ]
                refine wpAnyH_take (i := 4) (oi := ({ dst := some 189, op := Op.move (Operand.tmp 188), type := 4, pos := "law.go:72", after := #[{ on := 3, ground := Ground.data }, { on := 2, ground := Ground.chain }], guard := none } : Oper)) (v := ?_) rfl (by kernel_rfl) (by kernel_rfl) (by kernel_rfl) (fun _ _ _ h => h) (Or.inl ⟨by rfl, ?_⟩) (by assumption) ?_
                rotate_left
                · intro w hSw
                  try dsimp only at hSw
                  go_simp
                  try with_reducible rfl
                try simp only [Act.put, List.setIfInBounds_toArray, List.set_cons_zero, List.set_cons_succ]
                refine wpAnyH_take (i := 5) (oi := ({ dst := some 190, op := Op.load 44 (Operand.tmp 20), type := 44, pos := "law.go:72", after := #[{ on := 4, ground := Ground.guard }], guard := some (4, false) } : Oper)) (v := ?_) rfl (by kernel_rfl) (by kernel_rfl) (by kernel_rfl) (fun _ _ _ h => h) (Or.inl ⟨by rfl, ?_⟩) (by assumption) ?_
                rotate_left
                · intro w hSw
                  try dsimp only at hSw
                  go_simp
                  try with_reducible rfl
                try simp only [Act.put, List.setIfInBounds_toArray, List.set_cons_zero, List.set_cons_succ]
                refine wpAnyH_take (i := 6) (oi := ({ dst := some 191, op := Op.load 44 (Operand.tmp 21), type := 44, pos := "law.go:72", after := #[{ on := 4, ground := Ground.guard }], guard := some (4, false) } : Oper)) (v := ?_) rfl (by kernel_rfl) (by kernel_rfl) (by kernel_rfl) (fun _ _ _ h => h) (Or.inl ⟨by rfl, ?_⟩) (by assumption) ?_
                rotate_left
                · intro w hSw
                  try dsimp only at hSw
                  go_simp
                  try with_reducible rfl
                try simp only [Act.put, List.setIfInBounds_toArray, List.set_cons_zero, List.set_cons_succ]
                refine wpAnyH_ready (rs := [7]) (by kernel_rfl) (by simp) ?_
                refine AllReadyH.cons (o := ({ dst := some 192, op := Op.call { callee := Callee.value (Operand.func 25), args := #[Operand.tmp 190, Operand.tmp 191], argTypes := #[44, 44] }, type := 4, pos := "law.go:72", after := #[{ on := 5, ground := Ground.data }, { on := 6, ground := Ground.data }, { on := 4, ground := Ground.chain }, { on := 4, ground := Ground.guard }], guard := some (4, false) } : Oper)) rfl (fun K hK => ?_) ?_
                rotate_left
                · exact AllReadyH.nil
                go_simp
                refine (alike_any u _ _ _ _ _ ?_ ?_ (by omega)).mono ?_
                · (first | assumption | exact (by assumption : (Kd.C k77 _ A3x u.f3.length u.f3 ∧ Kd.C k77 _ B3x u.f3.length u.f3 ∧ Kd.C k77 _ E3 u.f3.length u.f3 ∧ _) ∧ _).1.1 | exact (by assumption : (Kd.C k77 _ A3x u.f3.length u.f3 ∧ Kd.C k77 _ B3x u.f3.length u.f3 ∧ Kd.C k77 _ E3 u.f3.length u.f3 ∧ _) ∧ _).1.2.1 | exact (by assumption : (Kd.C k77 _ A3x u.f3.length u.f3 ∧ Kd.C k77 _ B3x u.f3.length u.f3 ∧ Kd.C k77 _ E3 u.f3.length u.f3 ∧ _) ∧ _).1.2.2.1)
                · (first | assumption | exact (by assumption : (Kd.C k77 _ A3x u.f3.length u.f3 ∧ Kd.C k77 _ B3x u.f3.length u.f3 ∧ Kd.C k77 _ E3 u.f3.length u.f3 ∧ _) ∧ _).1.1 | exact (by assumption : (Kd.C k77 _ A3x u.f3.length u.f3 ∧ Kd.C k77 _ B3x u.f3.length u.f3 ∧ Kd.C k77 _ E3 u.f3.length u.f3 ∧ _) ∧ _).1.2.1 | exact (by assumption : (Kd.C k77 _ A3x u.f3.length u.f3 ∧ Kd.C k77 _ B3x u.f3.length u.f3 ∧ Kd.C k77 _ E3 u.f3.length u.f3 ∧ _) ∧ _).1.2.2.1)
                rintro e5 w8 ⟨rfl, hb8⟩
                go_wp2_with fail
                refine hK.out _ _ ?_ (fun hHeld => ?_)
                · (first | (refine ⟨⟨?_, ?_, ?_, ?_⟩, ?_, ?_, ?_, ?_, ?_, ?_, ?_, ?_, ?_, ?_, ?_, ?_, ?_, ?_, ?_, ?_, ?_, ?_⟩ <;> (first | assumption | exact below_q (by assumption) (by assumption) | exact C_keep (by assumption) (by assumption) | exact C_keep (by assumption) (C_keep (below_drew (Below.refl _ _)) (by assumption)) | exact C_keep (below_drew (Below.refl _ _)) (by assumption) | exact below_r (by assumption) (by assumption) | exact below_drew (by assumption) | exact below_r (by assumption) (below_drew (by assumption)))) | (obtain ⟨⟨_, _, _, _⟩, _, _, _, _, _, _, _, _, _, _, _, _, _, _, _, _, _, _⟩ := (by assumption : (Kd.C k77 _ A3x u.f3.length u.f3 ∧ Kd.C k77 _ B3x u.f3.length u.f3 ∧ Kd.C k77 _ E3 u.f3.length u.f3 ∧ _) ∧ _); refine ⟨⟨?_, ?_, ?_, ?_⟩, ?_, ?_, ?_, ?_, ?_, ?_, ?_, ?_, ?_, ?_, ?_, ?_, ?_, ?_, ?_, ?_, ?_, ?_⟩ <;> (first | assumption | exact below_q (by assumption) (by assumption) | exact C_keep (by assumption) (by assumption) | exact C_keep (by assumption) (C_keep (below_drew (Below.refl _ _)) (by assumption)) | exact C_keep (below_drew (Below.refl _ _)) (by assumption) | exact below_r (by assumption) (by assumption) | exact below_drew (by assumption) | exact below_r (by assumption) (below_drew (by assumption)))))
                clear hK K
                try simp only [Act.put, List.setIfInBounds_toArray, List.set_cons_zero, List.set_cons_succ]
                refine wpAnyH_take (i := 8) (oi := ({ dst := some 193, op := Op.unOp UnOp.not 4 (Operand.tmp 192), type := 4, pos := "law.go:72", after := #[{ on := 7, ground := Ground.data }, { on := 4, ground := Ground.guard }], guard := some (4, false) } : Oper)) (v := ?_) rfl (by kernel_rfl) (by kernel_rfl) (by kernel_rfl) (fun _ _ _ h => h) (Or.inl ⟨by rfl, ?_⟩) (by assumption) ?_
                rotate_left
                · intro w hSw
                  try dsimp only at hSw
                  go_simp
                  try with_reducible rfl
                try simp only [Act.put, List.setIfInBounds_toArray, List.set_cons_zero, List.set_cons_succ]
                refine wpAnyH_take (i := 9) (oi := ({ dst := some 194, op := Op.pick (Operand.tmp 189) (Operand.const (Value.bool true)) (Operand.tmp 193), type := 4, pos := "law.go:72", after := #[{ on := 4, ground := Ground.data }, { on := 8, ground := Ground.data }], guard := none } : Oper)) (v := ?_) rfl (by kernel_rfl) (by kernel_rfl) (by kernel_rfl) (fun _ _ _ h => h) (Or.inl ⟨by rfl, ?_⟩) (by assumption) ?_
                rotate_left
                · intro w hSw
                  try dsimp only at hSw
                  go_simp
                  try with_reducible rfl
                try simp only [Act.put, List.setIfInBounds_toArray, List.set_cons_zero, List.set_cons_succ]
                refine wpAnyH_take (i := 10) (oi := ({ dst := some 195, op := Op.move (Operand.tmp 194), type := 4, pos := "law.go:72", after := #[{ on := 9, ground := Ground.data }, { on := 7, ground := Ground.chain }], guard := none } : Oper)) (v := ?_) rfl (by kernel_rfl) (by kernel_rfl) (by kernel_rfl) (fun _ _ _ h => h) (Or.inl ⟨by rfl, ?_⟩) (by assumption) ?_
                rotate_left
                · intro w hSw
                  try dsimp only at hSw
                  go_simp
                  try with_reducible rfl
                try simp only [Act.put, List.setIfInBounds_toArray, List.set_cons_zero, List.set_cons_succ]
                refine wpAnyH_take (i := 11) (oi := ({ dst := some 196, op := Op.move (Operand.tmp 18), type := 3, pos := "law.go:72", after := #[{ on := 10, ground := Ground.guard }], guard := some (10, false) } : Oper)) (v := ?_) rfl (by kernel_rfl) (by kernel_rfl) (by kernel_rfl) (fun _ _ _ h => h) (Or.inl ⟨by rfl, ?_⟩) (by assumption) ?_
                rotate_left
                · intro w hSw
                  try dsimp only at hSw
                  go_simp
                  try with_reducible rfl
                try simp only [Act.put, List.setIfInBounds_toArray, List.set_cons_zero, List.set_cons_succ]
                refine wpAnyH_take (i := 12) (oi := ({ dst := some 197, op := Op.binOp BinOp.gtr 3 (Operand.tmp 196) (Operand.const (Value.int IntKind.i64 0)) 3, type := 4, pos := "law.go:72", after := #[{ on := 11, ground := Ground.data }, { on := 10, ground := Ground.guard }], guard := some (10, false) } : Oper)) (v := ?_) rfl (by kernel_rfl) (by kernel_rfl) (by kernel_rfl) (fun _ _ _ h => h) (Or.inl ⟨by rfl, ?_⟩) (by assumption) ?_
                rotate_left
                · intro w hSw
                  try dsimp only at hSw
                  go_simp
                  try with_reducible rfl
                try simp only [Act.put, List.setIfInBounds_toArray, List.set_cons_zero, List.set_cons_succ]
                refine wpAnyH_take (i := 13) (oi := ({ dst := some 198, op := Op.move (Operand.tmp 197), type := 4, pos := "law.go:72", after := #[{ on := 12, ground := Ground.data }, { on := 10, ground := Ground.chain }, { on := 10, ground := Ground.guard }], guard := some (10, false) } : Oper)) (v := ?_) rfl (by kernel_rfl) (by kernel_rfl) (by kernel_rfl) (fun _ _ _ h => h) (Or.inl ⟨by rfl, ?_⟩) (by assumption) ?_
                rotate_left
                · intro w hSw
                  try dsimp only at hSw
                  go_simp
                  try with_reducible rfl
                try simp only [Act.put, List.setIfInBounds_toArray, List.set_cons_zero, List.set_cons_succ]
                refine wpAnyH_take (i := 14) (oi := ({ dst := some 199, op := Op.move (Operand.tmp 12), type := 34, pos := "law.go:72", after := #[{ on := 13, ground := Ground.guard }], guard := some (13, true) } : Oper)) (v := undef) rfl (by kernel_rfl) (by kernel_rfl) (by kernel_rfl) (fun _ _ _ h => h) (Or.inr ⟨by rfl, rfl⟩) (by assumption) ?_
                try simp only [Act.put, List.setIfInBounds_toArray, List.set_cons_zero, List.set_cons_succ]
                refine wpAnyH_take (i := 15) (oi := ({ dst := some 200, op := Op.move (Operand.tmp 18), type := 3, pos := "law.go:72", after := #[{ on := 13, ground := Ground.guard }], guard := some (13, true) } : Oper)) (v := undef) rfl (by kernel_rfl) (by kernel_rfl) (by kernel_rfl) (fun _ _ _ h => h) (Or.inr ⟨by rfl, rfl⟩) (by assumption) ?_
                try simp only [Act.put, List.setIfInBounds_toArray, List.set_cons_zero, List.set_cons_succ]
                refine wpAnyH_take (i := 16) (oi := ({ dst := some 201, op := Op.binOp BinOp.sub 3 (Operand.tmp 200) (Operand.const (Value.int IntKind.i64 1)) 3, type := 3, pos := "law.go:72", after := #[{ on := 15, ground := Ground.data }, { on := 13, ground := Ground.guard }], guard := some (13, true) } : Oper)) (v := undef) rfl (by kernel_rfl) (by kernel_rfl) (by kernel_rfl) (fun _ _ _ h => h) (Or.inr ⟨by rfl, rfl⟩) (by assumption) ?_
                try simp only [Act.put, List.setIfInBounds_toArray, List.set_cons_zero, List.set_cons_succ]
                refine wpAnyH_take (i := 17) (oi := ({ dst := some 202, op := Op.indexAddr 34 (Operand.tmp 199) (Operand.tmp 201), type := 0, pos := "law.go:72", after := #[{ on := 14, ground := Ground.data }, { on := 16, ground := Ground.data }, { on := 13, ground := Ground.guard }], guard := some (13, true) } : Oper)) (v := undef) rfl (by kernel_rfl) (by kernel_rfl) (by kernel_rfl) (fun _ _ _ h => h) (Or.inr ⟨by rfl, rfl⟩) (by assumption) ?_
                try simp only [Act.put, List.setIfInBounds_toArray, List.set_cons_zero, List.set_cons_succ]
                refine wpAnyH_take (i := 18) (oi := ({ dst := some 203, op := Op.fieldAddr 44 (Operand.tmp 202) 5, type := 0, pos := "law.go:72", after := #[{ on := 17, ground := Ground.data }, { on := 13, ground := Ground.guard }], guard := some (13, true) } : Oper)) (v := undef) rfl (by kernel_rfl) (by kernel_rfl) (by kernel_rfl) (fun _ _ _ h => h) (Or.inr ⟨by rfl, rfl⟩) (by assumption) ?_
                try simp only [Act.put, List.setIfInBounds_toArray, List.set_cons_zero, List.set_cons_succ]
                refine wpAnyH_take (i := 19) (oi := ({ dst := some 204, op := Op.load 3 (Operand.tmp 203), type := 3, pos := "law.go:72", after := #[{ on := 18, ground := Ground.data }, { on := 13, ground := Ground.guard }], guard := some (13, true) } : Oper)) (v := undef) rfl (by kernel_rfl) (by kernel_rfl) (by kernel_rfl) (fun _ _ _ h => h) (Or.inr ⟨by rfl, rfl⟩) (by assumption) ?_
                try simp only [Act.put, List.setIfInBounds_toArray, List.set_cons_zero, List.set_cons_succ]
                refine wpAnyH_take (i := 20) (oi := ({ dst := some 205, op := Op.move (Operand.tmp 12), type := 34, pos := "law.go:72", after := #[{ on := 13, ground := Ground.guard }], guard := some (13, true) } : Oper)) (v := undef) rfl (by kernel_rfl) (by kernel_rfl) (by kernel_rfl) (fun _ _ _ h => h) (Or.inr ⟨by rfl, rfl⟩) (by assumption) ?_
                try simp only [Act.put, List.setIfInBounds_toArray, List.set_cons_zero, List.set_cons_succ]
                refine wpAnyH_take (i := 21) (oi := ({ dst := some 206, op := Op.move (Operand.tmp 18), type := 3, pos := "law.go:72", after := #[{ on := 13, ground := Ground.guard }], guard := some (13, true) } : Oper)) (v := undef) rfl (by kernel_rfl) (by kernel_rfl) (by kernel_rfl) (fun _ _ _ h => h) (Or.inr ⟨by rfl, rfl⟩) (by assumption) ?_
                try simp only [Act.put, List.setIfInBounds_toArray, List.set_cons_zero, List.set_cons_succ]
                refine wpAnyH_take (i := 22) (oi := ({ dst := some 207, op := Op.indexAddr 34 (Operand.tmp 205) (Operand.tmp 206), type := 0, pos := "law.go:72", after := #[{ on := 20, ground := Ground.data }, { on := 21, ground := Ground.data }, { on := 13, ground := Ground.guard }], guard := some (13, true) } : Oper)) (v := undef) rfl (by kernel_rfl) (by kernel_rfl) (by kernel_rfl) (fun _ _ _ h => h) (Or.inr ⟨by rfl, rfl⟩) (by assumption) ?_
                try simp only [Act.put, List.setIfInBounds_toArray, List.set_cons_zero, List.set_cons_succ]
                refine wpAnyH_take (i := 23) (oi := ({ dst := some 208, op := Op.fieldAddr 44 (Operand.tmp 207) 5, type := 0, pos := "law.go:72", after := #[{ on := 22, ground := Ground.data }, { on := 13, ground := Ground.guard }], guard := some (13, true) } : Oper)) (v := undef) rfl (by kernel_rfl) (by kernel_rfl) (by kernel_rfl) (fun _ _ _ h => h) (Or.inr ⟨by rfl, rfl⟩) (by assumption) ?_
                try simp only [Act.put, List.setIfInBounds_toArray, List.set_cons_zero, List.set_cons_succ]
                refine wpAnyH_take (i := 24) (oi := ({ dst := some 209, op := Op.load 3 (Operand.tmp 208), type := 3, pos := "law.go:72", after := #[{ on := 23, ground := Ground.data }, { on := 13, ground := Ground.guard }], guard := some (13, true) } : Oper)) (v := undef) rfl (by kernel_rfl) (by kernel_rfl) (by kernel_rfl) (fun _ _ _ h => h) (Or.inr ⟨by rfl, rfl⟩) (by assumption) ?_
                try simp only [Act.put, List.setIfInBounds_toArray, List.set_cons_zero, List.set_cons_succ]
                refine wpAnyH_take (i := 25) (oi := ({ dst := some 210, op := Op.binOp BinOp.geq 3 (Operand.tmp 204) (Operand.tmp 209) 3, type := 4, pos := "law.go:72", after := #[{ on := 19, ground := Ground.data }, { on := 24, ground := Ground.data }, { on := 13, ground := Ground.guard }], guard := some (13, true) } : Oper)) (v := undef) rfl (by kernel_rfl) (by kernel_rfl) (by kernel_rfl) (fun _ _ _ h => h) (Or.inr ⟨by rfl, rfl⟩) (by assumption) ?_
                try simp only [Act.put, List.setIfInBounds_toArray, List.set_cons_zero, List.set_cons_succ]
                refine wpAnyH_take (i := 26) (oi := ({ dst := some 211, op := Op.pick (Operand.tmp 198) (Operand.tmp 210) (Operand.const (Value.bool false)), type := 4, pos := "law.go:72", after := #[{ on := 13, ground := Ground.data }, { on := 25, ground := Ground.data }, { on := 10, ground := Ground.guard }], guard := some (10, false) } : Oper)) (v := ?_) rfl (by kernel_rfl) (by kernel_rfl) (by kernel_rfl) (fun _ _ _ h => h) (Or.inl ⟨by rfl, ?_⟩) (by assumption) ?_
                rotate_left
                · intro w hSw
                  try dsimp only at hSw
                  go_simp
                  try with_reducible rfl
                try simp only [Act.put, List.setIfInBounds_toArray, List.set_cons_zero, List.set_cons_succ]
                refine wpAnyH_take (i := 27) (oi := ({ dst := some 212, op := Op.pick (Operand.tmp 195) (Operand.const (Value.bool true)) (Operand.tmp 211), type := 4, pos := "law.go:72", after := #[{ on := 10, ground := Ground.data }, { on := 26, ground := Ground.data }], guard := none } : Oper)) (v := ?_) rfl (by kernel_rfl) (by kernel_rfl) (by kernel_rfl) (fun _ _ _ h => h) (Or.inl ⟨by rfl, ?_⟩) (by assumption) ?_
                rotate_left
                · intro w hSw
                  try dsimp only at hSw
                  go_simp
                  try with_reducible rfl
                try simp only [Act.put, List.setIfInBounds_toArray, List.set_cons_zero, List.set_cons_succ]
                refine wpAnyH_done (by kernel_rfl) ?_ _
                refine NoPanic.normal ?_
                go_wp2_with fail
                go_roundg (N - i)
                case measure => have := HK.out; omega
                case rel => exact ⟨i + 1, by go_num, by omega, ⟨by omega⟩, _, 0, rfl, ⟨by first | assumption | exact (by assumption : (Kd.C k77 _ A3x u.f3.length u.f3 ∧ Kd.C k77 _ B3x u.f3.length u.f3 ∧ Kd.C k77 _ E3 u.f3.length u.f3 ∧ _) ∧ _).1.2.2.2 | (obtain ⟨⟨_, _, _, hBf⟩, _⟩ := (by assumption : (Kd.C k77 _ A3x u.f3.length u.f3 ∧ Kd.C k77 _ B3x u.f3.length u.f3 ∧ Kd.C k77 _ E3 u.f3.length u.f3 ∧ _) ∧ _); exact hBf)⟩⟩
              · have kz : decide ((0 : Int) < (i : Int)) = true := decide_eq_true (by omega)
                have kz2 : decide (0 < i) = true := decide_eq_true (by omega)
                have kz3 : 0 < i := by omega
                obtain ⟨i1, hi1⟩ : ∃ i1 : Nat, (i : Int) - 1 = (i1 : Int) := ⟨i - 1, by omega⟩
                have hi2 : i1 + 1 = i := by omega
                obtain ⟨ac, AC, cc, ec, -, -, -, -, -, hc5, -, -⟩ := at_T44 HC3.out (i : Int) (by omega) (by omega)
                obtain ⟨ap, AP, cp, ep, -, -, -, -, -, hp5, -, -⟩ := at_T44 HC3.out (i1 : Int) (by omega) (by omega)
                obtain rfl : ad = ac := Option.some.inj ec
                obtain rfl : ad = ap := Option.some.inj ep
                have hlt := row_lt _ _ _ HROW.out i1 (by rw [HL3.out]; omega)
                rw [hi2] at hlt
                simp only [Int.toNat_natCast] at hc5 hp5
                generalize (rd_T44 lc (i : Int)).f5 = pc at hc5 hlt
                generalize (rd_T44 lc (i1 : Int)).f5 = pp at hp5 hlt
                have kAt : decide (pc ≤ pp) = false := decide_eq_false (by omega)
                replace hc5 := below_p HB5 hc5 (World.block_lt_of_cell? w4 _ hc5)
                replace hp5 := below_p HB5 hp5 (World.block_lt_of_cell? w4 _ hp5)
                have bw : IntKind.i64.wrap ((i : Int) - 1) = (i1 : Int) := by rw [IntWalk.i64_in _ (by omega)]; exact hi1
                have bi0 : i1 < N := by omega
                have bw2 : IntKind.i64.wrap (i1 : Int) = (i1 : Int) := IntWalk.i64_in _ (by omega)
                have bi4 : (1 : Int) ≤ (i : Int) := by omega
                have bi1 : ((0 : Int) ≤ (i1 : Int)) := by omega
                have bi2 : ((i1 : Int) < (N : Int)) := by omega
                have bi3 : ((i : Int) < (N : Int)) := by omega
                clear hlt hi2 ec ep
                refine wp_region_noPanic ?_
                refine wp_region_held_drew (S := fun w' => (Kd.C k77 w' A3x u.f3.length u.f3 ∧ Kd.C k77 w' B3x u.f3.length u.f3 ∧ Kd.C k77 w' E3 u.f3.length u.f3 ∧ Below w4.heap.size w4 w') ∧ w'.cell? ⟨gx, 0, none⟩ = some (.int .u8 u.f0) ∧ w'.cell? ⟨gx, 1, none⟩ = some (.string u.f1) ∧ w'.cell? ⟨gx, 2, none⟩ = some (.string u.f2) ∧ w'.cell? ⟨gx, 3, none⟩ = some (.slice A3x u.f3.length c3x) ∧ w'.cell? ⟨gx, 4, none⟩ = some (.bool u.f4) ∧ w'.cell? ⟨gx, 5, none⟩ = some (.int .i64 u.f5) ∧ w'.cell? ⟨gy, 0, none⟩ = some (.int .u8 u.f0) ∧ w'.cell? ⟨gy, 1, none⟩ = some (.string u.f1) ∧ w'.cell? ⟨gy, 2, none⟩ = some (.string u.f2) ∧ w'.cell? ⟨gy, 3, none⟩ = some (.slice B3x u.f3.length d3x) ∧ w'.cell? ⟨gy, 4, none⟩ = some (.bool u.f4) ∧ w'.cell? ⟨gy, 5, none⟩ = some (.int .i64 u.f5) ∧ w'.cell? ⟨gz, 0, none⟩ = some (.int .u8 u.f0) ∧ w'.cell? ⟨gz, 1, none⟩ = some (.string u.f1) ∧ w'.cell? ⟨gz, 2, none⟩ = some (.string u.f2) ∧ w'.cell? ⟨gz, 3, none⟩ = some (.slice E3 u.f3.length e3) ∧ w'.cell? ⟨gz, 4, none⟩ = some (.bool u.f4) ∧ w'.cell? ⟨gz, 5, none⟩ = some (.int .i64 u.f5) ∧ w'.cell? ⟨(ad.add (i * 6)).block, (ad.add (i * 6)).off + 5, none⟩ = some (.int .i64 pc) ∧ w'.cell? ⟨(ad.add (i1 * 6)).block, (ad.add (i1 * 6)).off + 5, none⟩ = some (.int .i64 pp)) (by kernel_rfl) ?_ (fun hHeld => ?_)
                · (first | (refine ⟨⟨?_, ?_, ?_, ?_⟩, ?_, ?_, ?_, ?_, ?_, ?_, ?_, ?_, ?_, ?_, ?_, ?_, ?_, ?_, ?_, ?_, ?_, ?_, ?_, ?_⟩ <;> (first | assumption | exact below_q (by assumption) (by assumption) | exact C_keep (by assumption) (by assumption) | exact C_keep (by assumption) (C_keep (below_drew (Below.refl _ _)) (by assumption)) | exact C_keep (below_drew (Below.refl _ _)) (by assumption) | exact below_r (by assumption) (by assumption) | exact below_drew (by assumption) | exact below_r (by assumption) (below_drew (by assumption)))) | (obtain ⟨⟨_, _, _, _⟩, _, _, _, _, _, _, _, _, _, _, _, _, _, _, _, _, _, _, _, _⟩ := (by assumption : (Kd.C k77 _ A3x u.f3.length u.f3 ∧ Kd.C k77 _ B3x u.f3.length u.f3 ∧ Kd.C k77 _ E3 u.f3.length u.f3 ∧ _) ∧ _); refine ⟨⟨?_, ?_, ?_, ?_⟩, ?_, ?_, ?_, ?_, ?_, ?_, ?_, ?_, ?_, ?_, ?_, ?_, ?_, ?_, ?_, ?_, ?_, ?_, ?_, ?_⟩ <;> (first | assumption | exact below_q (by assumption) (by assumption) | exact C_keep (by assumption) (by assumption) | exact C_keep (by assumption) (C_keep (below_drew (Below.refl _ _)) (by assumption)) | exact C_keep (below_drew (Below.refl _ _)) (by assumption) | exact below_r (by assumption) (by assumption) | exact below_drew (by assumption) | exact below_r (by assumption) (below_drew (by assumption)))))
                refine wpAnyH_take (i := 0) (oi := ({ dst := some 185, op := Op.load 44 (Operand.tmp 19), type := 44, pos := "law.go:72", after := #[], guard := none } : Oper)) (v := ?_) rfl (by kernel_rfl) (by kernel_rfl) (by kernel_rfl) (fun _ _ _ h => h) (Or.inl ⟨by rfl, ?_⟩) (by assumption) ?_
                rotate_left
                · intro w hSw
                  try dsimp only at hSw
                  go_simp
                  try with_reducible rfl
                try simp only [Act.put, List.setIfInBounds_toArray, List.set_cons_zero, List.set_cons_succ]
                refine wpAnyH_take (i := 1) (oi := ({ dst := some 186, op := Op.load 44 (Operand.tmp 21), type := 44, pos := "law.go:72", after := #[], guard := none } : Oper)) (v := ?_) rfl (by kernel_rfl) (by kernel_rfl) (by kernel_rfl) (fun _ _ _ h => h) (Or.inl ⟨by rfl, ?_⟩) (by assumption) ?_
                rotate_left
                · intro w hSw
                  try dsimp only at hSw
                  go_simp
                  try with_reducible rfl
                try simp only [Act.put, List.setIfInBounds_toArray, List.set_cons_zero, List.set_cons_succ]
                refine wpAnyH_ready (rs := [2]) (by kernel_rfl) (by simp) ?_
                refine AllReadyH.cons (o := ({ dst := some 187, op := Op.call { callee := Callee.value (Operand.func 25), args := #[Operand.tmp 185, Operand.tmp 186], argTypes := #[44, 44] }, type := 4, pos := "law.go:72", after := #[{ on := 0, ground := Ground.data }, { on := 1, ground := Ground.data }], guard := none } : Oper)) rfl (fun K hK => ?_) ?_
                rotate_left
                · exact AllReadyH.nil
                go_simp
                refine (alike_any u _ _ _ _ _ ?_ ?_ (by omega)).mono ?_
                · (first | assumption | exact (by assumption : (Kd.C k77 _ A3x u.f3.length u.f3 ∧ Kd.C k77 _ B3x u.f3.length u.f3 ∧ Kd.C k77 _ E3 u.f3.length u.f3 ∧ _) ∧ _).1.1 | exact (by assumption : (Kd.C k77 _ A3x u.f3.length u.f3 ∧ Kd.C k77 _ B3x u.f3.length u.f3 ∧ Kd.C k77 _ E3 u.f3.length u.f3 ∧ _) ∧ _).1.2.1 | exact (by assumption : (Kd.C k77 _ A3x u.f3.length u.f3 ∧ Kd.C k77 _ B3x u.f3.length u.f3 ∧ Kd.C k77 _ E3 u.f3.length u.f3 ∧ _) ∧ _).1.2.2.1)
                · (first | assumption | exact (by assumption : (Kd.C k77 _ A3x u.f3.length u.f3 ∧ Kd.C k77 _ B3x u.f3.length u.f3 ∧ Kd.C k77 _ E3 u.f3.length u.f3 ∧ _) ∧ _).1.1 | exact (by assumption : (Kd.C k77 _ A3x u.f3.length u.f3 ∧ Kd.C k77 _ B3x u.f3.length u.f3 ∧ Kd.C k77 _ E3 u.f3.length u.f3 ∧ _) ∧ _).1.2.1 | exact (by assumption : (Kd.C k77 _ A3x u.f3.length u.f3 ∧ Kd.C k77 _ B3x u.f3.length u.f3 ∧ Kd.C k77 _ E3 u.f3.length u.f3 ∧ _) ∧ _).1.2.2.1)
                rintro e5 w7 ⟨rfl, hb7⟩
                go_wp2_with fail
                refine hK.out _ _ ?_ (fun hHeld => ?_)
                · (first | (refine ⟨⟨?_, ?_, ?_, ?_⟩, ?_, ?_, ?_, ?_, ?_, ?_, ?_, ?_, ?_, ?_, ?_, ?_, ?_, ?_, ?_, ?_, ?_, ?_, ?_, ?_⟩ <;> (first | assumption | exact below_q (by assumption) (by assumption) | exact C_keep (by assumption) (by assumption) | exact C_keep (by assumption) (C_keep (below_drew (Below.refl _ _)) (by assumption)) | exact C_keep (below_drew (Below.refl _ _)) (by assumption) | exact below_r (by assumption) (by assumption) | exact below_drew (by assumption) | exact below_r (by assumption) (below_drew (by assumption)))) | (obtain ⟨⟨_, _, _, _⟩, _, _, _, _, _, _, _, _, _, _, _, _, _, _, _, _, _, _, _, _⟩ := (by assumption : (Kd.C k77 _ A3x u.f3.length u.f3 ∧ Kd.C k77 _ B3x u.f3.length u.f3 ∧ Kd.C k77 _ E3 u.f3.length u.f3 ∧ _) ∧ _); refine ⟨⟨?_, ?_, ?_, ?_⟩, ?_, ?_, ?_, ?_, ?_, ?_, ?_, ?_, ?_, ?_, ?_, ?_, ?_, ?_, ?_, ?_, ?_, ?_, ?_, ?_⟩ <;> (first | assumption | exact below_q (by assumption) (by assumption) | exact C_keep (by assumption) (by assumption) | exact C_keep (by assumption) (C_keep (below_drew (Below.refl _ _)) (by assumption)) | exact C_keep (below_drew (Below.refl _ _)) (by assumption) | exact below_r (by assumption) (by assumption) | exact below_drew (by assumption) | exact below_r (by assumption) (below_drew (by assumption)))))
                clear hK K
                try simp only [Act.put, List.setIfInBounds_toArray, List.set_cons_zero, List.set_cons_succ]
                refine wpAnyH_take (i := 3) (oi := ({ dst := some 188, op := Op.unOp UnOp.not 4 (Operand.tmp 187), type := 4, pos := "law.go:72", after := #[{ on := 2, ground := Ground.data }], guard := none } : Oper)) (v := ?_) rfl (by kernel_rfl) (by kernel_rfl) (by kernel_rfl) (fun _ _ _ h => h) (Or.inl ⟨by rfl, ?_⟩) (by assumption) ?_
                rotate_left
                · intro w hSw
                  try dsimp only at hSw
                  go_simp
                  try with_reducible rfl
                try simp only [Act.put, List.setIfInBounds_toArray, List.set_cons_zero, List.set_cons_succ]
                refine wpAnyH_take (i := 4) (oi := ({ dst := some 189, op := Op.move (Operand.tmp 188), type := 4, pos := "law.go:72", after := #[{ on := 3, ground := Ground.data }, { on := 2, ground := Ground.chain }], guard := none } : Oper)) (v := ?_) rfl (by kernel_rfl) (by kernel_rfl) (by kernel_rfl) (fun _ _ _ h => h) (Or.inl ⟨by rfl, ?_⟩) (by assumption) ?_
                rotate_left
                · intro w hSw
                  try dsimp only at hSw
                  go_simp
                  try with_reducible rfl
                try simp only [Act.put, List.setIfInBounds_toArray, List.set_cons_zero, List.set_cons_succ]
                refine wpAnyH_take (i := 5) (oi := ({ dst := some 190, op := Op.load 44 (Operand.tmp 20), type := 44, pos := "law.go:72", after := #[{ on := 4, ground := Ground.guard }], guard := some (4, false) } : Oper)) (v := ?_) rfl (by kernel_rfl) (by kernel_rfl) (by kernel_rfl) (fun _ _ _ h => h) (Or.inl ⟨by rfl, ?_⟩) (by assumption) ?_
                rotate_left
                · intro w hSw
                  try dsimp only at hSw
                  go_simp
                  try with_reducible rfl
                try simp only [Act.put, List.setIfInBounds_toArray, List.set_cons_zero, List.set_cons_succ]
                refine wpAnyH_take (i := 6) (oi := ({ dst := some 191, op := Op.load 44 (Operand.tmp 21), type := 44, pos := "law.go:72", after := #[{ on := 4, ground := Ground.guard }], guard := some (4, false) } : Oper)) (v := ?_) rfl (by kernel_rfl) (by kernel_rfl) (by kernel_rfl) (fun _ _ _ h => h) (Or.inl ⟨by rfl, ?_⟩) (by assumption) ?_
                rotate_left
                · intro w hSw
                  try dsimp only at hSw
                  go_simp
                  try with_reducible rfl
                try simp only [Act.put, List.setIfInBounds_toArray, List.set_cons_zero, List.set_cons_succ]
                refine wpAnyH_ready (rs := [7]) (by kernel_rfl) (by simp) ?_
                refine AllReadyH.cons (o := ({ dst := some 192, op := Op.call { callee := Callee.value (Operand.func 25), args := #[Operand.tmp 190, Operand.tmp 191], argTypes := #[44, 44] }, type := 4, pos := "law.go:72", after := #[{ on := 5, ground := Ground.data }, { on := 6, ground := Ground.data }, { on := 4, ground := Ground.chain }, { on := 4, ground := Ground.guard }], guard := some (4, false) } : Oper)) rfl (fun K hK => ?_) ?_
                rotate_left
                · exact AllReadyH.nil
                go_simp
                refine (alike_any u _ _ _ _ _ ?_ ?_ (by omega)).mono ?_
                · (first | assumption | exact (by assumption : (Kd.C k77 _ A3x u.f3.length u.f3 ∧ Kd.C k77 _ B3x u.f3.length u.f3 ∧ Kd.C k77 _ E3 u.f3.length u.f3 ∧ _) ∧ _).1.1 | exact (by assumption : (Kd.C k77 _ A3x u.f3.length u.f3 ∧ Kd.C k77 _ B3x u.f3.length u.f3 ∧ Kd.C k77 _ E3 u.f3.length u.f3 ∧ _) ∧ _).1.2.1 | exact (by assumption : (Kd.C k77 _ A3x u.f3.length u.f3 ∧ Kd.C k77 _ B3x u.f3.length u.f3 ∧ Kd.C k77 _ E3 u.f3.length u.f3 ∧ _) ∧ _).1.2.2.1)
                · (first | assumption | exact (by assumption : (Kd.C k77 _ A3x u.f3.length u.f3 ∧ Kd.C k77 _ B3x u.f3.length u.f3 ∧ Kd.C k77 _ E3 u.f3.length u.f3 ∧ _) ∧ _).1.1 | exact (by assumption : (Kd.C k77 _ A3x u.f3.length u.f3 ∧ Kd.C k77 _ B3x u.f3.length u.f3 ∧ Kd.C k77 _ E3 u.f3.length u.f3 ∧ _) ∧ _).1.2.1 | exact (by assumption : (Kd.C k77 _ A3x u.f3.length u.f3 ∧ Kd.C k77 _ B3x u.f3.length u.f3 ∧ Kd.C k77 _ E3 u.f3.length u.f3 ∧ _) ∧ _).1.2.2.1)
                rintro e5 w8 ⟨rfl, hb8⟩
                go_wp2_with fail
                refine hK.out _ _ ?_ (fun hHeld => ?_)
                · (first | (refine ⟨⟨?_, ?_, ?_, ?_⟩, ?_, ?_, ?_, ?_, ?_, ?_, ?_, ?_, ?_, ?_, ?_, ?_, ?_, ?_, ?_, ?_, ?_, ?_, ?_, ?_⟩ <;> (first | assumption | exact below_q (by assumption) (by assumption) | exact C_keep (by assumption) (by assumption) | exact C_keep (by assumption) (C_keep (below_drew (Below.refl _ _)) (by assumption)) | exact C_keep (below_drew (Below.refl _ _)) (by assumption) | exact below_r (by assumption) (by assumption) | exact below_drew (by assumption) | exact below_r (by assumption) (below_drew (by assumption)))) | (obtain ⟨⟨_, _, _, _⟩, _, _, _, _, _, _, _, _, _, _, _, _, _, _, _, _, _, _, _, _⟩ := (by assumption : (Kd.C k77 _ A3x u.f3.length u.f3 ∧ Kd.C k77 _ B3x u.f3.length u.f3 ∧ Kd.C k77 _ E3 u.f3.length u.f3 ∧ _) ∧ _); refine ⟨⟨?_, ?_, ?_, ?_⟩, ?_, ?_, ?_, ?_, ?_, ?_, ?_, ?_, ?_, ?_, ?_, ?_, ?_, ?_, ?_, ?_, ?_, ?_, ?_, ?_⟩ <;> (first | assumption | exact below_q (by assumption) (by assumption) | exact C_keep (by assumption) (by assumption) | exact C_keep (by assumption) (C_keep (below_drew (Below.refl _ _)) (by assumption)) | exact C_keep (below_drew (Below.refl _ _)) (by assumption) | exact below_r (by assumption) (by assumption) | exact below_drew (by assumption) | exact below_r (by assumption) (below_drew (by assumption)))))
                clear hK K
                try simp only [Act.put, List.setIfInBounds_toArray, List.set_cons_zero, List.set_cons_succ]
                refine wpAnyH_take (i := 8) (oi := ({ dst := some 193, op := Op.unOp UnOp.not 4 (Operand.tmp 192), type := 4, pos := "law.go:72", after := #[{ on := 7, ground := Ground.data }, { on := 4, ground := Ground.guard }], guard := some (4, false) } : Oper)) (v := ?_) rfl (by kernel_rfl) (by kernel_rfl) (by kernel_rfl) (fun _ _ _ h => h) (Or.inl ⟨by rfl, ?_⟩) (by assumption) ?_
                rotate_left
                · intro w hSw
                  try dsimp only at hSw
                  go_simp
                  try with_reducible rfl
                try simp only [Act.put, List.setIfInBounds_toArray, List.set_cons_zero, List.set_cons_succ]
                refine wpAnyH_take (i := 9) (oi := ({ dst := some 194, op := Op.pick (Operand.tmp 189) (Operand.const (Value.bool true)) (Operand.tmp 193), type := 4, pos := "law.go:72", after := #[{ on := 4, ground := Ground.data }, { on := 8, ground := Ground.data }], guard := none } : Oper)) (v := ?_) rfl (by kernel_rfl) (by kernel_rfl) (by kernel_rfl) (fun _ _ _ h => h) (Or.inl ⟨by rfl, ?_⟩) (by assumption) ?_
                rotate_left
                · intro w hSw
                  try dsimp only at hSw
                  go_simp
                  try with_reducible rfl
                try simp only [Act.put, List.setIfInBounds_toArray, List.set_cons_zero, List.set_cons_succ]
                refine wpAnyH_take (i := 10) (oi := ({ dst := some 195, op := Op.move (Operand.tmp 194), type := 4, pos := "law.go:72", after := #[{ on := 9, ground := Ground.data }, { on := 7, ground := Ground.chain }], guard := none } : Oper)) (v := ?_) rfl (by kernel_rfl) (by kernel_rfl) (by kernel_rfl) (fun _ _ _ h => h) (Or.inl ⟨by rfl, ?_⟩) (by assumption) ?_
                rotate_left
                · intro w hSw
                  try dsimp only at hSw
                  go_simp
                  try with_reducible rfl
                try simp only [Act.put, List.setIfInBounds_toArray, List.set_cons_zero, List.set_cons_succ]
                refine wpAnyH_take (i := 11) (oi := ({ dst := some 196, op := Op.move (Operand.tmp 18), type := 3, pos := "law.go:72", after := #[{ on := 10, ground := Ground.guard }], guard := some (10, false) } : Oper)) (v := ?_) rfl (by kernel_rfl) (by kernel_rfl) (by kernel_rfl) (fun _ _ _ h => h) (Or.inl ⟨by rfl, ?_⟩) (by assumption) ?_
                rotate_left
                · intro w hSw
                  try dsimp only at hSw
                  go_simp
                  try with_reducible rfl
                try simp only [Act.put, List.setIfInBounds_toArray, List.set_cons_zero, List.set_cons_succ]
                refine wpAnyH_take (i := 12) (oi := ({ dst := some 197, op := Op.binOp BinOp.gtr 3 (Operand.tmp 196) (Operand.const (Value.int IntKind.i64 0)) 3, type := 4, pos := "law.go:72", after := #[{ on := 11, ground := Ground.data }, { on := 10, ground := Ground.guard }], guard := some (10, false) } : Oper)) (v := ?_) rfl (by kernel_rfl) (by kernel_rfl) (by kernel_rfl) (fun _ _ _ h => h) (Or.inl ⟨by rfl, ?_⟩) (by assumption) ?_
                rotate_left
                · intro w hSw
                  try dsimp only at hSw
                  go_simp
                  try with_reducible rfl
                try simp only [Act.put, List.setIfInBounds_toArray, List.set_cons_zero, List.set_cons_succ]
                refine wpAnyH_take (i := 13) (oi := ({ dst := some 198, op := Op.move (Operand.tmp 197), type := 4, pos := "law.go:72", after := #[{ on := 12, ground := Ground.data }, { on := 10, ground := Ground.chain }, { on := 10, ground := Ground.guard }], guard := some (10, false) } : Oper)) (v := ?_) rfl (by kernel_rfl) (by kernel_rfl) (by kernel_rfl) (fun _ _ _ h => h) (Or.inl ⟨by rfl, ?_⟩) (by assumption) ?_
                rotate_left
                · intro w hSw
                  try dsimp only at hSw
                  go_simp
                  try with_reducible rfl
                try simp only [Act.put, List.setIfInBounds_toArray, List.set_cons_zero, List.set_cons_succ]
                refine wpAnyH_take (i := 14) (oi := ({ dst := some 199, op := Op.move (Operand.tmp 12), type := 34, pos := "law.go:72", after := #[{ on := 13, ground := Ground.guard }], guard := some (13, true) } : Oper)) (v := ?_) rfl (by kernel_rfl) (by kernel_rfl) (by kernel_rfl) (fun _ _ _ h => h) (Or.inl ⟨by rfl, ?_⟩) (by assumption) ?_
                rotate_left
                · intro w hSw
                  try dsimp only at hSw
                  go_simp
                  try with_reducible rfl
                try simp only [Act.put, List.setIfInBounds_toArray, List.set_cons_zero, List.set_cons_succ]
                refine wpAnyH_take (i := 15) (oi := ({ dst := some 200, op := Op.move (Operand.tmp 18), type := 3, pos := "law.go:72", after := #[{ on := 13, ground := Ground.guard }], guard := some (13, true) } : Oper)) (v := ?_) rfl (by kernel_rfl) (by kernel_rfl) (by kernel_rfl) (fun _ _ _ h => h) (Or.inl ⟨by rfl, ?_⟩) (by assumption) ?_
                rotate_left
                · intro w hSw
                  try dsimp only at hSw
                  go_simp
                  try with_reducible rfl
                try simp only [Act.put, List.setIfInBounds_toArray, List.set_cons_zero, List.set_cons_succ]
                refine wpAnyH_take (i := 16) (oi := ({ dst := some 201, op := Op.binOp BinOp.sub 3 (Operand.tmp 200) (Operand.const (Value.int IntKind.i64 1)) 3, type := 3, pos := "law.go:72", after := #[{ on := 15, ground := Ground.data }, { on := 13, ground := Ground.guard }], guard := some (13, true) } : Oper)) (v := ?_) rfl (by kernel_rfl) (by kernel_rfl) (by kernel_rfl) (fun _ _ _ h => h) (Or.inl ⟨by rfl, ?_⟩) (by assumption) ?_
                rotate_left
                · intro w hSw
                  try dsimp only at hSw
                  go_simp
                  try with_reducible rfl
                try simp only [Act.put, List.setIfInBounds_toArray, List.set_cons_zero, List.set_cons_succ]
                refine wpAnyH_take (i := 17) (oi := ({ dst := some 202, op := Op.indexAddr 34 (Operand.tmp 199) (Operand.tmp 201), type := 0, pos := "law.go:72", after := #[{ on := 14, ground := Ground.data }, { on := 16, ground := Ground.data }, { on := 13, ground := Ground.guard }], guard := some (13, true) } : Oper)) (v := ?_) rfl (by kernel_rfl) (by kernel_rfl) (by kernel_rfl) (fun _ _ _ h => h) (Or.inl ⟨by rfl, ?_⟩) (by assumption) ?_
                rotate_left
                · intro w hSw
                  try dsimp only at hSw
                  go_simp
                  try with_reducible rfl
                try simp only [Act.put, List.setIfInBounds_toArray, List.set_cons_zero, List.set_cons_succ]
                refine wpAnyH_take (i := 18) (oi := ({ dst := some 203, op := Op.fieldAddr 44 (Operand.tmp 202) 5, type := 0, pos := "law.go:72", after := #[{ on := 17, ground := Ground.data }, { on := 13, ground := Ground.guard }], guard := some (13, true) } : Oper)) (v := ?_) rfl (by kernel_rfl) (by kernel_rfl) (by kernel_rfl) (fun _ _ _ h => h) (Or.inl ⟨by rfl, ?_⟩) (by assumption) ?_
                rotate_left
                · intro w hSw
                  try dsimp only at hSw
                  go_simp
                  try with_reducible rfl
                try simp only [Act.put, List.setIfInBounds_toArray, List.set_cons_zero, List.set_cons_succ]
                refine wpAnyH_take (i := 19) (oi := ({ dst := some 204, op := Op.load 3 (Operand.tmp 203), type := 3, pos := "law.go:72", after := #[{ on := 18, ground := Ground.data }, { on := 13, ground := Ground.guard }], guard := some (13, true) } : Oper)) (v := ?_) rfl (by kernel_rfl) (by kernel_rfl) (by kernel_rfl) (fun _ _ _ h => h) (Or.inl ⟨by rfl, ?_⟩) (by assumption) ?_
                rotate_left
                · intro w hSw
                  try dsimp only at hSw
                  go_simp
                  try with_reducible rfl
                try simp only [Act.put, List.setIfInBounds_toArray, List.set_cons_zero, List.set_cons_succ]
                refine wpAnyH_take (i := 20) (oi := ({ dst := some 205, op := Op.move (Operand.tmp 12), type := 34, pos := "law.go:72", after := #[{ on := 13, ground := Ground.guard }], guard := some (13, true) } : Oper)) (v := ?_) rfl (by kernel_rfl) (by kernel_rfl) (by kernel_rfl) (fun _ _ _ h => h) (Or.inl ⟨by rfl, ?_⟩) (by assumption) ?_
                rotate_left
                · intro w hSw
                  try dsimp only at hSw
                  go_simp
                  try with_reducible rfl
                try simp only [Act.put, List.setIfInBounds_toArray, List.set_cons_zero, List.set_cons_succ]
                refine wpAnyH_take (i := 21) (oi := ({ dst := some 206, op := Op.move (Operand.tmp 18), type := 3, pos := "law.go:72", after := #[{ on := 13, ground := Ground.guard }], guard := some (13, true) } : Oper)) (v := ?_) rfl (by kernel_rfl) (by kernel_rfl) (by kernel_rfl) (fun _ _ _ h => h) (Or.inl ⟨by rfl, ?_⟩) (by assumption) ?_
                rotate_left
                · intro w hSw
                  try dsimp only at hSw
                  go_simp
                  try with_reducible rfl
                try simp only [Act.put, List.setIfInBounds_toArray, List.set_cons_zero, List.set_cons_succ]
                refine wpAnyH_take (i := 22) (oi := ({ dst := some 207, op := Op.indexAddr 34 (Operand.tmp 205) (Operand.tmp 206), type := 0, pos := "law.go:72", after := #[{ on := 20, ground := Ground.data }, { on := 21, ground := Ground.data }, { on := 13, ground := Ground.guard }], guard := some (13, true) } : Oper)) (v := ?_) rfl (by kernel_rfl) (by kernel_rfl) (by kernel_rfl) (fun _ _ _ h => h) (Or.inl ⟨by rfl, ?_⟩) (by assumption) ?_
                rotate_left
                · intro w hSw
                  try dsimp only at hSw
                  go_simp
                  try with_reducible rfl
                try simp only [Act.put, List.setIfInBounds_toArray, List.set_cons_zero, List.set_cons_succ]
                refine wpAnyH_take (i := 23) (oi := ({ dst := some 208, op := Op.fieldAddr 44 (Operand.tmp 207) 5, type := 0, pos := "law.go:72", after := #[{ on := 22, ground := Ground.data }, { on := 13, ground := Ground.guard }], guard := some (13, true) } : Oper)) (v := ?_) rfl (by kernel_rfl) (by kernel_rfl) (by kernel_rfl) (fun _ _ _ h => h) (Or.inl ⟨by rfl, ?_⟩) (by assumption) ?_
                rotate_left
                · intro w hSw
                  try dsimp only at hSw
                  go_simp
                  try with_reducible rfl
                try simp only [Act.put, List.setIfInBounds_toArray, List.set_cons_zero, List.set_cons_succ]
                refine wpAnyH_take (i := 24) (oi := ({ dst := some 209, op := Op.load 3 (Operand.tmp 208), type := 3, pos := "law.go:72", after := #[{ on := 23, ground := Ground.data }, { on := 13, ground := Ground.guard }], guard := some (13, true) } : Oper)) (v := ?_) rfl (by kernel_rfl) (by kernel_rfl) (by kernel_rfl) (fun _ _ _ h => h) (Or.inl ⟨by rfl, ?_⟩) (by assumption) ?_
                rotate_left
                · intro w hSw
                  try dsimp only at hSw
                  go_simp
                  try with_reducible rfl
                try simp only [Act.put, List.setIfInBounds_toArray, List.set_cons_zero, List.set_cons_succ]
                refine wpAnyH_take (i := 25) (oi := ({ dst := some 210, op := Op.binOp BinOp.geq 3 (Operand.tmp 204) (Operand.tmp 209) 3, type := 4, pos := "law.go:72", after := #[{ on := 19, ground := Ground.data }, { on := 24, ground := Ground.data }, { on := 13, ground := Ground.guard }], guard := some (13, true) } : Oper)) (v := ?_) rfl (by kernel_rfl) (by kernel_rfl) (by kernel_rfl) (fun _ _ _ h => h) (Or.inl ⟨by rfl, ?_⟩) (by assumption) ?_
                rotate_left
                · intro w hSw
                  try dsimp only at hSw
                  go_simp
                  try with_reducible rfl
                try simp only [Act.put, List.setIfInBounds_toArray, List.set_cons_zero, List.set_cons_succ]
                refine wpAnyH_take (i := 26) (oi := ({ dst := some 211, op := Op.pick (Operand.tmp 198) (Operand.tmp 210) (Operand.const (Value.bool false)), type := 4, pos := "law.go:72", after := #[{ on := 13, ground := Ground.data }, { on := 25, ground := Ground.data }, { on := 10, ground := Ground.guard }], guard := some (10, false) } : Oper)) (v := ?_) rfl (by kernel_rfl) (by kernel_rfl) (by kernel_rfl) (fun _ _ _ h => h) (Or.inl ⟨by rfl, ?_⟩) (by assumption) ?_
                rotate_left
                · intro w hSw
                  try dsimp only at hSw
                  go_simp
                  try with_reducible rfl
                try simp only [Act.put, List.setIfInBounds_toArray, List.set_cons_zero, List.set_cons_succ]
                refine wpAnyH_take (i := 27) (oi := ({ dst := some 212, op := Op.pick (Operand.tmp 195) (Operand.const (Value.bool true)) (Operand.tmp 211), type := 4, pos := "law.go:72", after := #[{ on := 10, ground := Ground.data }, { on := 26, ground := Ground.data }], guard := none } : Oper)) (v := ?_) rfl (by kernel_rfl) (by kernel_rfl) (by kernel_rfl) (fun _ _ _ h => h) (Or.inl ⟨by rfl, ?_⟩) (by assumption) ?_
                rotate_left
                · intro w hSw
                  try dsimp only at hSw
                  go_simp
                  try with_reducible rfl
                try simp only [Act.put, List.setIfInBounds_toArray, List.set_cons_zero, List.set_cons_succ]
                refine wpAnyH_done (by kernel_rfl) ?_ _
                refine NoPanic.normal ?_
                go_wp2_with fail
                go_roundg (N - i)
                case measure => have := HK.out; omega
                case rel => exact ⟨i + 1, by go_num, by omega, ⟨by omega⟩, _, 0, rfl, ⟨by first | assumption | exact (by assumption : (Kd.C k77 _ A3x u.f3.length u.f3 ∧ Kd.C k77 _ B3x u.f3.length u.f3 ∧ Kd.C k77 _ E3 u.f3.length u.f3 ∧ _) ∧ _).1.2.2.2 | (obtain ⟨⟨_, _, _, hBf⟩, _⟩ := (by assumption : (Kd.C k77 _ A3x u.f3.length u.f3 ∧ Kd.C k77 _ B3x u.f3.length u.f3 ∧ Kd.C k77 _ E3 u.f3.length u.f3 ∧ _) ∧ _); exact hBf)⟩⟩
            · have kia : decide ((i : Int) < (la.length : Int)) = false := decide_eq_false (by omega)
              obtain ⟨j, hj⟩ : ∃ j, i - la.length = j := ⟨_, rfl⟩
              have hNN := HN.out
              have hjl : j < lb.length := by omega
              have hij : (i : Int) - (la.length : Int) = (j : Int) := by omega
              obtain ⟨ed, E3, e3, e, hu0, hu1, hu2, hu3, hu4, hu5, hlu, hiu⟩ := at_T44 HC2.out (j : Int) (by omega) (by omega)
              cases e
              simp only [Int.toNat_natCast] at hu0 hu1 hu2 hu3 hu4 hu5 hlu hiu
              have hxb := row_bd _ _ _ HROW.out x (by rw [← HX.out]; exact rd_mem lc i (by rw [HL3.out]; omega))
              have hxu : x = mvT (s.size + 10) (rd_T44 lb (j : Int)) := by rw [← HX.out, ← HLC.out, ← hj]; exact rd_right _ la lb i (by omega) (by omega)
              have hyu : y = mvT s.size (rd_T44 lb (j : Int)) := by rw [← HY.out, ← HLD.out, ← hj]; exact rd_right _ la lb i (by omega) (by omega)
              have huf : (rd_T44 lb (j : Int)).f3.length ≤ 3000 := HBB.out.2 _ (rd_mem lb j hjl)
              clear HX HY hj hNN
              generalize rd_T44 lb (j : Int) = u at *
              obtain ⟨X5, hX5⟩ : ∃ X5 : Int, x.f5 = X5 := ⟨_, rfl⟩
              obtain ⟨Y5, hY5⟩ : ∃ Y5 : Int, y.f5 = Y5 := ⟨_, rfl⟩
              have eX : X5 = u.f5 + ((s.size + 10 : Nat) : Int) := by rw [← hX5, hxu]; rfl
              have eY : Y5 = u.f5 + ((s.size : Nat) : Int) := by rw [← hY5, hyu]; rfl
              have ex0 : x.f0 = u.f0 := by rw [hxu]; rfl
              have ex1 : x.f1 = u.f1 := by rw [hxu]; rfl
              have ex2 : x.f2 = u.f2 := by rw [hxu]; rfl
              have ex3 : x.f3 = u.f3 := by rw [hxu]; rfl
              have ex4 : x.f4 = u.f4 := by rw [hxu]; rfl
              have ey0 : y.f0 = u.f0 := by rw [hyu]; rfl
              have ey1 : y.f1 = u.f1 := by rw [hyu]; rfl
              have ey2 : y.f2 = u.f2 := by rw [hyu]; rfl
              have ey3 : y.f3 = u.f3 := by rw [hyu]; rfl
              have ey4 : y.f4 = u.f4 := by rw [hyu]; rfl
              rw [hX5] at hxb
              have hxc : X5 ≤ 3000 := by
                have := hxb.2
                rw [ByteArray.size_append, ByteArray.size_append, show (⟨midB.toArray⟩ : ByteArray).size = 10 from rfl] at this
                omega
              have hxd : 0 ≤ X5 := hxb.1
              obtain ⟨X6, hX6⟩ : ∃ X6 : Int, u.f5 + 10 = X6 := ⟨_, rfl⟩
              have e1 : X5 - (s.size : Int) = X6 := by omega
              have e2 : X6 - 10 = u.f5 := by omega
              have e3' : Y5 - (s.size : Int) = u.f5 := by omega
              have b1 : -2000 ≤ X6 := by omega
              have b2 : X6 ≤ 4000 := by omega
              have b3 : -2000 ≤ u.f5 := by omega
              have b4 : u.f5 ≤ 4000 := by omega
              have b5 : -2000 ≤ Y5 := by omega
              have b6 : Y5 ≤ 4000 := by omega
              have hXX2 : w2.heap[gx]? = some (.cells #[.int .u8 u.f0, .string u.f1, .string u.f2, .slice A3x u.f3.length c3x, .bool u.f4, .int .i64 X5] 44 (0, 0)) := by
                have := hXX.out
                unfold Box44 at this
                rw [ex0, ex1, ex2, ex3, ex4, hX5] at this
                exact this
              have hYY2 : w2.heap[gy]? = some (.cells #[.int .u8 u.f0, .string u.f1, .string u.f2, .slice B3x u.f3.length d3x, .bool u.f4, .int .i64 Y5] 44 (0, 0)) := by
                have := hYY.out
                unfold Box44 at this
                rw [ey0, ey1, ey2, ey3, ey4, hY5] at this
                exact this
              replace hXX2 := Lib.hid hXX2
              replace hYY2 := Lib.hid hYY2
              rw [hX5] at x5
              rw [hY5] at y5
              rw [ex3] at HI
              rw [ey3] at HJ
              clear hxu hyu hX6 hX5 hY5 eX eY ex0 ex1 ex2 ex3 ex4 ey0 ey1 ey2 ey3 ey4 hxb
              replace hu0 := (HBx.out.cell (World.block_lt_of_cell? w4 _ hu0)).trans hu0
              replace hu1 := (HBx.out.cell (World.block_lt_of_cell? w4 _ hu1)).trans hu1
              replace hu2 := (HBx.out.cell (World.block_lt_of_cell? w4 _ hu2)).trans hu2
              replace hu3 := (HBx.out.cell (World.block_lt_of_cell? w4 _ hu3)).trans hu3
              replace hu4 := (HBx.out.cell (World.block_lt_of_cell? w4 _ hu4)).trans hu4
              replace hu5 := (HBx.out.cell (World.block_lt_of_cell? w4 _ hu5)).trans hu5
              have HU := Lib.hid hiu
              clear hiu
              go_wp2_with fail
              generalize hw5 : World.setCell _ _ _ = w5
              have BX : Box44 w5 gx u A3x c3x := by rw [← hw5]; exact (Below.heap_setCell _ ⟨gy, 5, none⟩ _ gx n1).trans (heap_setCell_same _ _ 5 _ _ _ (box_far m2 hXX2.out))
              have BY : Box44 w5 gy u B3x d3x := by rw [← hw5]; exact heap_setCell_same _ _ 5 _ _ _ ((Below.heap_setCell _ ⟨gx, 5, none⟩ _ gy m1).trans (box_far m3 hYY2.out))
              have BZ : Box44 w5 gz u E3 e3 := by rw [← hw5]; exact (Below.heap_setCell _ ⟨gy, 5, none⟩ _ gz m3).trans ((Below.heap_setCell _ ⟨gx, 5, none⟩ _ gz m2).trans (row6 HZ.out _ _ _ _ _ _))
              have HB5 : Below w4.heap.size w4 w5 := by rw [← hw5]; exact ((below63 _ _ _ _ _ _ HBx.out (by have := HBw.out.size; omega)).setCell (p := ⟨gx, 5, none⟩) (by have := HBw.out.size; show w4.heap.size ≤ gx; omega) _).setCell (p := ⟨gy, 5, none⟩) (by have := HBw.out.size; show w4.heap.size ≤ gy; omega) _
              clear hw5 hu0 hu1 hu2 hu3 hu4 hu5
              clear x0 x1 x2 x3 x4 x5 y0 y1 y2 y3 y4 y5 z0 z1 z2 z3 z4 z5 fx fy fz
              have x0 := cell_of_row _ gx 0 _ _ _ BX
              have x1 := cell_of_row _ gx 1 _ _ _ BX
              have x2 := cell_of_row _ gx 2 _ _ _ BX
              have x3 := cell_of_row _ gx 3 _ _ _ BX
              have x4 := cell_of_row _ gx 4 _ _ _ BX
              have x5 := cell_of_row _ gx 5 _ _ _ BX
              have y0 := cell_of_row _ gy 0 _ _ _ BY
              have y1 := cell_of_row _ gy 1 _ _ _ BY
              have y2 := cell_of_row _ gy 2 _ _ _ BY
              have y3 := cell_of_row _ gy 3 _ _ _ BY
              have y4 := cell_of_row _ gy 4 _ _ _ BY
              have y5 := cell_of_row _ gy 5 _ _ _ BY
              have z0 := cell_of_row _ gz 0 _ _ _ BZ
              have z1 := cell_of_row _ gz 1 _ _ _ BZ
              have z2 := cell_of_row _ gz 2 _ _ _ BZ
              have z3 := cell_of_row _ gz 3 _ _ _ BZ
              have z4 := cell_of_row _ gz 4 _ _ _ BZ
              have z5 := cell_of_row _ gz 5 _ _ _ BZ
              simp only [List.getElem?_toArray, List.getElem?_cons_zero, List.getElem?_cons_succ] at x0 x1 x2 x3 x4 x5 y0 y1 y2 y3 y4 y5 z0 z1 z2 z3 z4 z5
              have q1 := Kd.C_below HI.out HB5
              have q2 := Kd.C_below HJ.out HB5
              have q3 := Kd.C_below HU.out HB5
              clear BX BY BZ
              by_cases hi0 : i = 0
              · have kz : decide ((0 : Int) < (i : Int)) = false := decide_eq_false (by omega)
                have kz2 : decide (0 < i) = false := decide_eq_false (by omega)
                have kz3 : ¬ 0 < i := by omega
                clear hi0
                refine wp_region_noPanic ?_
                refine wp_region_held_drew (S := fun w' => (Kd.C k77 w' A3x u.f3.length u.f3 ∧ Kd.C k77 w' B3x u.f3.length u.f3 ∧ Kd.C k77 w' E3 u.f3.length u.f3 ∧ Below w4.heap.size w4 w') ∧ w'.cell? ⟨gx, 0, none⟩ = some (.int .u8 u.f0) ∧ w'.cell? ⟨gx, 1, none⟩ = some (.string u.f1) ∧ w'.cell? ⟨gx, 2, none⟩ = some (.string u.f2) ∧ w'.cell? ⟨gx, 3, none⟩ = some (.slice A3x u.f3.length c3x) ∧ w'.cell? ⟨gx, 4, none⟩ = some (.bool u.f4) ∧ w'.cell? ⟨gx, 5, none⟩ = some (.int .i64 u.f5) ∧ w'.cell? ⟨gy, 0, none⟩ = some (.int .u8 u.f0) ∧ w'.cell? ⟨gy, 1, none⟩ = some (.string u.f1) ∧ w'.cell? ⟨gy, 2, none⟩ = some (.string u.f2) ∧ w'.cell? ⟨gy, 3, none⟩ = some (.slice B3x u.f3.length d3x) ∧ w'.cell? ⟨gy, 4, none⟩ = some (.bool u.f4) ∧ w'.cell? ⟨gy, 5, none⟩ = some (.int .i64 u.f5) ∧ w'.cell? ⟨gz, 0, none⟩ = some (.int .u8 u.f0) ∧ w'.cell? ⟨gz, 1, none⟩ = some (.string u.f1) ∧ w'.cell? ⟨gz, 2, none⟩ = some (.string u.f2) ∧ w'.cell? ⟨gz, 3, none⟩ = some (.slice E3 u.f3.length e3) ∧ w'.cell? ⟨gz, 4, none⟩ = some (.bool u.f4) ∧ w'.cell? ⟨gz, 5, none⟩ = some (.int .i64 u.f5)) (by kernel_rfl) ?_ (fun hHeld => ?_)
                · (first | (refine ⟨⟨?_, ?_, ?_, ?_⟩, ?_, ?_, ?_, ?_, ?_, ?_, ?_, ?_, ?_, ?_, ?_, ?_, ?_, ?_, ?_, ?_, ?_, ?_⟩ <;> (first | assumption | exact below_q (by assumption) (by assumption) | exact C_keep (by assumption) (by assumption) | exact C_keep (by assumption) (C_keep (below_drew (Below.refl _ _)) (by assumption)) | exact C_keep (below_drew (Below.refl _ _)) (by assumption) | exact below_r (by assumption) (by assumption) | exact below_drew (by assumption) | exact below_r (by assumption) (below_drew (by assumption)))) | (obtain ⟨⟨_, _, _, _⟩, _, _, _, _, _, _, _, _, _, _, _, _, _, _, _, _, _, _⟩ := (by assumption : (Kd.C k77 _ A3x u.f3.length u.f3 ∧ Kd.C k77 _ B3x u.f3.length u.f3 ∧ Kd.C k77 _ E3 u.f3.length u.f3 ∧ _) ∧ _); refine ⟨⟨?_, ?_, ?_, ?_⟩, ?_, ?_, ?_, ?_, ?_, ?_, ?_, ?_, ?_, ?_, ?_, ?_, ?_, ?_, ?_, ?_, ?_, ?_⟩ <;> (first | assumption | exact below_q (by assumption) (by assumption) | exact C_keep (by assumption) (by assumption) | exact C_keep (by assumption) (C_keep (below_drew (Below.refl _ _)) (by assumption)) | exact C_keep (below_drew (Below.refl _ _)) (by assumption) | exact below_r (by assumption) (by assumption) | exact below_drew (by assumption) | exact below_r (by assumption) (below_drew (by assumption)))))
                refine wpAnyH_take (i := 0) (oi := ({ dst := some 185, op := Op.load 44 (Operand.tmp 19), type := 44, pos := "law.go:72", after := #[], guard := none } : Oper)) (v := ?_) rfl (by kernel_rfl) (by kernel_rfl) (by kernel_rfl) (fun _ _ _ h => h) (Or.inl ⟨by rfl, ?_⟩) (by assumption) ?_
                rotate_left
                · intro w hSw
                  try dsimp only at hSw
                  go_simp
                  try with_reducible rfl
                try simp only [Act.put, List.setIfInBounds_toArray, List.set_cons_zero, List.set_cons_succ]
                refine wpAnyH_take (i := 1) (oi := ({ dst := some 186, op := Op.load 44 (Operand.tmp 21), type := 44, pos := "law.go:72", after := #[], guard := none } : Oper)) (v := ?_) rfl (by kernel_rfl) (by kernel_rfl) (by kernel_rfl) (fun _ _ _ h => h) (Or.inl ⟨by rfl, ?_⟩) (by assumption) ?_
                rotate_left
                · intro w hSw
                  try dsimp only at hSw
                  go_simp
                  try with_reducible rfl
                try simp only [Act.put, List.setIfInBounds_toArray, List.set_cons_zero, List.set_cons_succ]
                refine wpAnyH_ready (rs := [2]) (by kernel_rfl) (by simp) ?_
                refine AllReadyH.cons (o := ({ dst := some 187, op := Op.call { callee := Callee.value (Operand.func 25), args := #[Operand.tmp 185, Operand.tmp 186], argTypes := #[44, 44] }, type := 4, pos := "law.go:72", after := #[{ on := 0, ground := Ground.data }, { on := 1, ground := Ground.data }], guard := none } : Oper)) rfl (fun K hK => ?_) ?_
                rotate_left
                · exact AllReadyH.nil
                go_simp
                refine (alike_any u _ _ _ _ _ ?_ ?_ (by omega)).mono ?_
                · (first | assumption | exact (by assumption : (Kd.C k77 _ A3x u.f3.length u.f3 ∧ Kd.C k77 _ B3x u.f3.length u.f3 ∧ Kd.C k77 _ E3 u.f3.length u.f3 ∧ _) ∧ _).1.1 | exact (by assumption : (Kd.C k77 _ A3x u.f3.length u.f3 ∧ Kd.C k77 _ B3x u.f3.length u.f3 ∧ Kd.C k77 _ E3 u.f3.length u.f3 ∧ _) ∧ _).1.2.1 | exact (by assumption : (Kd.C k77 _ A3x u.f3.length u.f3 ∧ Kd.C k77 _ B3x u.f3.length u.f3 ∧ Kd.C k77 _ E3 u.f3.length u.f3 ∧ _) ∧ _).1.2.2.1)
                · (first | assumption | exact (by assumption : (Kd.C k77 _ A3x u.f3.length u.f3 ∧ Kd.C k77 _ B3x u.f3.length u.f3 ∧ Kd.C k77 _ E3 u.f3.length u.f3 ∧ _) ∧ _).1.1 | exact (by assumption : (Kd.C k77 _ A3x u.f3.length u.f3 ∧ Kd.C k77 _ B3x u.f3.length u.f3 ∧ Kd.C k77 _ E3 u.f3.length u.f3 ∧ _) ∧ _).1.2.1 | exact (by assumption : (Kd.C k77 _ A3x u.f3.length u.f3 ∧ Kd.C k77 _ B3x u.f3.length u.f3 ∧ Kd.C k77 _ E3 u.f3.length u.f3 ∧ _) ∧ _).1.2.2.1)
                rintro e5 w7 ⟨rfl, hb7⟩
                go_wp2_with fail
                refine hK.out _ _ ?_ (fun hHeld => ?_)
                · (first | (refine ⟨⟨?_, ?_, ?_, ?_⟩, ?_, ?_, ?_, ?_, ?_, ?_, ?_, ?_, ?_, ?_, ?_, ?_, ?_, ?_, ?_, ?_, ?_, ?_⟩ <;> (first | assumption | exact below_q (by assumption) (by assumption) | exact C_keep (by assumption) (by assumption) | exact C_keep (by assumption) (C_keep (below_drew (Below.refl _ _)) (by assumption)) | exact C_keep (below_drew (Below.refl _ _)) (by assumption) | exact below_r (by assumption) (by assumption) | exact below_drew (by assumption) | exact below_r (by assumption) (below_drew (by assumption)))) | (obtain ⟨⟨_, _, _, _⟩, _, _, _, _, _, _, _, _, _, _, _, _, _, _, _, _, _, _⟩ := (by assumption : (Kd.C k77 _ A3x u.f3.length u.f3 ∧ Kd.C k77 _ B3x u.f3.length u.f3 ∧ Kd.C k77 _ E3 u.f3.length u.f3 ∧ _) ∧ _); refine ⟨⟨?_, ?_, ?_, ?_⟩, ?_, ?_, ?_, ?_, ?_, ?_, ?_, ?_, ?_, ?_, ?_, ?_, ?_, ?_, ?_, ?_, ?_, ?_⟩ <;> (first | assumption | exact below_q (by assumption) (by assumption) | exact C_keep (by assumption) (by assumption) | exact C_keep (by assumption) (C_keep (below_drew (Below.refl _ _)) (by assumption)) | exact C_keep (below_drew (Below.refl _ _)) (by assumption) | exact below_r (by assumption) (by assumption) | exact below_drew (by assumption) | exact below_r (by assumption) (below_drew (by assumption)))))
                clear hK K
                try simp only [Act.put, List.setIfInBounds_toArray, List.set_cons_zero, List.set_cons_succ]
                refine wpAnyH_take (i := 3) (oi := ({ dst := some 188, op := Op.unOp UnOp.not 4 (Operand.tmp 187), type := 4, pos := "law.go:72", after := #[{ on := 2, ground := Ground.data }], guard := none } : Oper)) (v := ?_) rfl (by kernel_rfl) (by kernel_rfl) (by kernel_rfl) (fun _ _ _ h => h) (Or.inl ⟨by rfl, ?_⟩) (by assumption) ?_
                rotate_left
                · intro w hSw
                  try dsimp only at hSw
                  go_simp
                  try with_reducible rfl
                try simp only [Act.put, List.setIfInBounds_toArray, List.set_cons_zero, List.set_cons_succ]
                refine wpAnyH_take (i := 4) (oi := ({ dst := some 189, op := Op.move (Operand.tmp 188), type := 4, pos := "law.go:72", after := #[{ on := 3, ground := Ground.data }, { on := 2, ground := Ground.chain }], guard := none } : Oper)) (v := ?_) rfl (by kernel_rfl) (by kernel_rfl) (by kernel_rfl) (fun _ _ _ h => h) (Or.inl ⟨by rfl, ?_⟩) (by assumption) ?_
                rotate_left
                · intro w hSw
                  try dsimp only at hSw
                  go_simp
                  try with_reducible rfl
                try simp only [Act.put, List.setIfInBounds_toArray, List.set_cons_zero, List.set_cons_succ]
                refine wpAnyH_take (i := 5) (oi := ({ dst := some 190, op := Op.load 44 (Operand.tmp 20), type := 44, pos := "law.go:72", after := #[{ on := 4, ground := Ground.guard }], guard := some (4, false) } : Oper)) (v := ?_) rfl (by kernel_rfl) (by kernel_rfl) (by kernel_rfl) (fun _ _ _ h => h) (Or.inl ⟨by rfl, ?_⟩) (by assumption) ?_
                rotate_left
                · intro w hSw
                  try dsimp only at hSw
                  go_simp
                  try with_reducible rfl
                try simp only [Act.put, List.setIfInBounds_toArray, List.set_cons_zero, List.set_cons_succ]
                refine wpAnyH_take (i := 6) (oi := ({ dst := some 191, op := Op.load 44 (Operand.tmp 21), type := 44, pos := "law.go:72", after := #[{ on := 4, ground := Ground.guard }], guard := some (4, false) } : Oper)) (v := ?_) rfl (by kernel_rfl) (by kernel_rfl) (by kernel_rfl) (fun _ _ _ h => h) (Or.inl ⟨by rfl, ?_⟩) (by assumption) ?_
                rotate_left
                · intro w hSw
                  try dsimp only at hSw
                  go_simp
                  try with_reducible rfl
                try simp only [Act.put, List.setIfInBounds_toArray, List.set_cons_zero, List.set_cons_succ]
                refine wpAnyH_ready (rs := [7]) (by kernel_rfl) (by simp) ?_
                refine AllReadyH.cons (o := ({ dst := some 192, op := Op.call { callee := Callee.value (Operand.func 25), args := #[Operand.tmp 190, Operand.tmp 191], argTypes := #[44, 44] }, type := 4, pos := "law.go:72", after := #[{ on := 5, ground := Ground.data }, { on := 6, ground := Ground.data }, { on := 4, ground := Ground.chain }, { on := 4, ground := Ground.guard }], guard := some (4, false) } : Oper)) rfl (fun K hK => ?_) ?_
                rotate_left
                · exact AllReadyH.nil
                go_simp
                refine (alike_any u _ _ _ _ _ ?_ ?_ (by omega)).mono ?_
                · (first | assumption | exact (by assumption : (Kd.C k77 _ A3x u.f3.length u.f3 ∧ Kd.C k77 _ B3x u.f3.length u.f3 ∧ Kd.C k77 _ E3 u.f3.length u.f3 ∧ _) ∧ _).1.1 | exact (by assumption : (Kd.C k77 _ A3x u.f3.length u.f3 ∧ Kd.C k77 _ B3x u.f3.length u.f3 ∧ Kd.C k77 _ E3 u.f3.length u.f3 ∧ _) ∧ _).1.2.1 | exact (by assumption : (Kd.C k77 _ A3x u.f3.length u.f3 ∧ Kd.C k77 _ B3x u.f3.length u.f3 ∧ Kd.C k77 _ E3 u.f3.length u.f3 ∧ _) ∧ _).1.2.2.1)
                · (first | assumption | exact (by assumption : (Kd.C k77 _ A3x u.f3.length u.f3 ∧ Kd.C k77 _ B3x u.f3.length u.f3 ∧ Kd.C k77 _ E3 u.f3.length u.f3 ∧ _) ∧ _).1.1 | exact (by assumption : (Kd.C k77 _ A3x u.f3.length u.f3 ∧ Kd.C k77 _ B3x u.f3.length u.f3 ∧ Kd.C k77 _ E3 u.f3.length u.f3 ∧ _) ∧ _).1.2.1 | exact (by assumption : (Kd.C k77 _ A3x u.f3.length u.f3 ∧ Kd.C k77 _ B3x u.f3.length u.f3 ∧ Kd.C k77 _ E3 u.f3.length u.f3 ∧ _) ∧ _).1.2.2.1)
                rintro e5 w8 ⟨rfl, hb8⟩
                go_wp2_with fail
                refine hK.out _ _ ?_ (fun hHeld => ?_)
                · (first | (refine ⟨⟨?_, ?_, ?_, ?_⟩, ?_, ?_, ?_, ?_, ?_, ?_, ?_, ?_, ?_, ?_, ?_, ?_, ?_, ?_, ?_, ?_, ?_, ?_⟩ <;> (first | assumption | exact below_q (by assumption) (by assumption) | exact C_keep (by assumption) (by assumption) | exact C_keep (by assumption) (C_keep (below_drew (Below.refl _ _)) (by assumption)) | exact C_keep (below_drew (Below.refl _ _)) (by assumption) | exact below_r (by assumption) (by assumption) | exact below_drew (by assumption) | exact below_r (by assumption) (below_drew (by assumption)))) | (obtain ⟨⟨_, _, _, _⟩, _, _, _, _, _, _, _, _, _, _, _, _, _, _, _, _, _, _⟩ := (by assumption : (Kd.C k77 _ A3x u.f3.length u.f3 ∧ Kd.C k77 _ B3x u.f3.length u.f3 ∧ Kd.C k77 _ E3 u.f3.length u.f3 ∧ _) ∧ _); refine ⟨⟨?_, ?_, ?_, ?_⟩, ?_, ?_, ?_, ?_, ?_, ?_, ?_, ?_, ?_, ?_, ?_, ?_, ?_, ?_, ?_, ?_, ?_, ?_⟩ <;> (first | assumption | exact below_q (by assumption) (by assumption) | exact C_keep (by assumption) (by assumption) | exact C_keep (by assumption) (C_keep (below_drew (Below.refl _ _)) (by assumption)) | exact C_keep (below_drew (Below.refl _ _)) (by assumption) | exact below_r (by assumption) (by assumption) | exact below_drew (by assumption) | exact below_r (by assumption) (below_drew (by assumption)))))
                clear hK K
                try simp only [Act.put, List.setIfInBounds_toArray, List.set_cons_zero, List.set_cons_succ]
                refine wpAnyH_take (i := 8) (oi := ({ dst := some 193, op := Op.unOp UnOp.not 4 (Operand.tmp 192), type := 4, pos := "law.go:72", after := #[{ on := 7, ground := Ground.data }, { on := 4, ground := Ground.guard }], guard := some (4, false) } : Oper)) (v := ?_) rfl (by kernel_rfl) (by kernel_rfl) (by kernel_rfl) (fun _ _ _ h => h) (Or.inl ⟨by rfl, ?_⟩) (by assumption) ?_
                rotate_left
                · intro w hSw
                  try dsimp only at hSw
                  go_simp
                  try with_reducible rfl
                try simp only [Act.put, List.setIfInBounds_toArray, List.set_cons_zero, List.set_cons_succ]
                refine wpAnyH_take (i := 9) (oi := ({ dst := some 194, op := Op.pick (Operand.tmp 189) (Operand.const (Value.bool true)) (Operand.tmp 193), type := 4, pos := "law.go:72", after := #[{ on := 4, ground := Ground.data }, { on := 8, ground := Ground.data }], guard := none } : Oper)) (v := ?_) rfl (by kernel_rfl) (by kernel_rfl) (by kernel_rfl) (fun _ _ _ h => h) (Or.inl ⟨by rfl, ?_⟩) (by assumption) ?_
                rotate_left
                · intro w hSw
                  try dsimp only at hSw
                  go_simp
                  try with_reducible rfl
                try simp only [Act.put, List.setIfInBounds_toArray, List.set_cons_zero, List.set_cons_succ]
                refine wpAnyH_take (i := 10) (oi := ({ dst := some 195, op := Op.move (Operand.tmp 194), type := 4, pos := "law.go:72", after := #[{ on := 9, ground := Ground.data }, { on := 7, ground := Ground.chain }], guard := none } : Oper)) (v := ?_) rfl (by kernel_rfl) (by kernel_rfl) (by kernel_rfl) (fun _ _ _ h => h) (Or.inl ⟨by rfl, ?_⟩) (by assumption) ?_
                rotate_left
                · intro w hSw
                  try dsimp only at hSw
                  go_simp
                  try with_reducible rfl
                try simp only [Act.put, List.setIfInBounds_toArray, List.set_cons_zero, List.set_cons_succ]
                refine wpAnyH_take (i := 11) (oi := ({ dst := some 196, op := Op.move (Operand.tmp 18), type := 3, pos := "law.go:72", after := #[{ on := 10, ground := Ground.guard }], guard := some (10, false) } : Oper)) (v := ?_) rfl (by kernel_rfl) (by kernel_rfl) (by kernel_rfl) (fun _ _ _ h => h) (Or.inl ⟨by rfl, ?_⟩) (by assumption) ?_
                rotate_left
                · intro w hSw
                  try dsimp only at hSw
                  go_simp
                  try with_reducible rfl
                try simp only [Act.put, List.setIfInBounds_toArray, List.set_cons_zero, List.set_cons_succ]
                refine wpAnyH_take (i := 12) (oi := ({ dst := some 197, op := Op.binOp BinOp.gtr 3 (Operand.tmp 196) (Operand.const (Value.int IntKind.i64 0)) 3, type := 4, pos := "law.go:72", after := #[{ on := 11, ground := Ground.data }, { on := 10, ground := Ground.guard }], guard := some (10, false) } : Oper)) (v := ?_) rfl (by kernel_rfl) (by kernel_rfl) (by kernel_rfl) (fun _ _ _ h => h) (Or.inl ⟨by rfl, ?_⟩) (by assumption) ?_
                rotate_left
                · intro w hSw
                  try dsimp only at hSw
                  go_simp
                  try with_reducible rfl
                try simp only [Act.put, List.setIfInBounds_toArray, List.set_cons_zero, List.set_cons_succ]
                refine wpAnyH_take (i := 13) (oi := ({ dst := some 198, op := Op.move (Operand.tmp 197), type := 4, pos := "law.go:72", after := #[{ on := 12, ground := Ground.data }, { on := 10, ground := Ground.chain }, { on := 10, ground := Ground.guard }], guard := some (10, false) } : Oper)) (v := ?_) rfl (by kernel_rfl) (by kernel_rfl) (by kernel_rfl) (fun _ _ _ h => h) (Or.inl ⟨by rfl, ?_⟩) (by assumption) ?_
                rotate_left
                · intro w hSw
                  try dsimp only at hSw
                  go_simp
                  try with_reducible rfl
                try simp only [Act.put, List.setIfInBounds_toArray, List.set_cons_zero, List.set_cons_succ]
                refine wpAnyH_take (i := 14) (oi := ({ dst := some 199, op := Op.move (Operand.tmp 12), type := 34, pos := "law.go:72", after := #[{ on := 13, ground := Ground.guard }], guard := some (13, true) } : Oper)) (v := undef) rfl (by kernel_rfl) (by kernel_rfl) (by kernel_rfl) (fun _ _ _ h => h) (Or.inr ⟨by rfl, rfl⟩) (by assumption) ?_
                try simp only [Act.put, List.setIfInBounds_toArray, List.set_cons_zero, List.set_cons_succ]
                refine wpAnyH_take (i := 15) (oi := ({ dst := some 200, op := Op.move (Operand.tmp 18), type := 3, pos := "law.go:72", after := #[{ on := 13, ground := Ground.guard }], guard := some (13, true) } : Oper)) (v := undef) rfl (by kernel_rfl) (by kernel_rfl) (by kernel_rfl) (fun _ _ _ h => h) (Or.inr ⟨by rfl, rfl⟩) (by assumption) ?_
                try simp only [Act.put, List.setIfInBounds_toArray, List.set_cons_zero, List.set_cons_succ]
                refine wpAnyH_take (i := 16) (oi := ({ dst := some 201, op := Op.binOp BinOp.sub 3 (Operand.tmp 200) (Operand.const (Value.int IntKind.i64 1)) 3, type := 3, pos := "law.go:72", after := #[{ on := 15, ground := Ground.data }, { on := 13, ground := Ground.guard }], guard := some (13, true) } : Oper)) (v := undef) rfl (by kernel_rfl) (by kernel_rfl) (by kernel_rfl) (fun _ _ _ h => h) (Or.inr ⟨by rfl, rfl⟩) (by assumption) ?_
                try simp only [Act.put, List.setIfInBounds_toArray, List.set_cons_zero, List.set_cons_succ]
                refine wpAnyH_take (i := 17) (oi := ({ dst := some 202, op := Op.indexAddr 34 (Operand.tmp 199) (Operand.tmp 201), type := 0, pos := "law.go:72", after := #[{ on := 14, ground := Ground.data }, { on := 16, ground := Ground.data }, { on := 13, ground := Ground.guard }], guard := some (13, true) } : Oper)) (v := undef) rfl (by kernel_rfl) (by kernel_rfl) (by kernel_rfl) (fun _ _ _ h => h) (Or.inr ⟨by rfl, rfl⟩) (by assumption) ?_
                try simp only [Act.put, List.setIfInBounds_toArray, List.set_cons_zero, List.set_cons_succ]
                refine wpAnyH_take (i := 18) (oi := ({ dst := some 203, op := Op.fieldAddr 44 (Operand.tmp 202) 5, type := 0, pos := "law.go:72", after := #[{ on := 17, ground := Ground.data }, { on := 13, ground := Ground.guard }], guard := some (13, true) } : Oper)) (v := undef) rfl (by kernel_rfl) (by kernel_rfl) (by kernel_rfl) (fun _ _ _ h => h) (Or.inr ⟨by rfl, rfl⟩) (by assumption) ?_
                try simp only [Act.put, List.setIfInBounds_toArray, List.set_cons_zero, List.set_cons_succ]
                refine wpAnyH_take (i := 19) (oi := ({ dst := some 204, op := Op.load 3 (Operand.tmp 203), type := 3, pos := "law.go:72", after := #[{ on := 18, ground := Ground.data }, { on := 13, ground := Ground.guard }], guard := some (13, true) } : Oper)) (v := undef) rfl (by kernel_rfl) (by kernel_rfl) (by kernel_rfl) (fun _ _ _ h => h) (Or.inr ⟨by rfl, rfl⟩) (by assumption) ?_
                try simp only [Act.put, List.setIfInBounds_toArray, List.set_cons_zero, List.set_cons_succ]
                refine wpAnyH_take (i := 20) (oi := ({ dst := some 205, op := Op.move (Operand.tmp 12), type := 34, pos := "law.go:72", after := #[{ on := 13, ground := Ground.guard }], guard := some (13, true) } : Oper)) (v := undef) rfl (by kernel_rfl) (by kernel_rfl) (by kernel_rfl) (fun _ _ _ h => h) (Or.inr ⟨by rfl, rfl⟩) (by assumption) ?_
                try simp only [Act.put, List.setIfInBounds_toArray, List.set_cons_zero, List.set_cons_succ]
                refine wpAnyH_take (i := 21) (oi := ({ dst := some 206, op := Op.move (Operand.tmp 18), type := 3, pos := "law.go:72", after := #[{ on := 13, ground := Ground.guard }], guard := some (13, true) } : Oper)) (v := undef) rfl (by kernel_rfl) (by kernel_rfl) (by kernel_rfl) (fun _ _ _ h => h) (Or.inr ⟨by rfl, rfl⟩) (by assumption) ?_
                try simp only [Act.put, List.setIfInBounds_toArray, List.set_cons_zero, List.set_cons_succ]
                refine wpAnyH_take (i := 22) (oi := ({ dst := some 207, op := Op.indexAddr 34 (Operand.tmp 205) (Operand.tmp 206), type := 0, pos := "law.go:72", after := #[{ on := 20, ground := Ground.data }, { on := 21, ground := Ground.data }, { on := 13, ground := Ground.guard }], guard := some (13, true) } : Oper)) (v := undef) rfl (by kernel_rfl) (by kernel_rfl) (by kernel_rfl) (fun _ _ _ h => h) (Or.inr ⟨by rfl, rfl⟩) (by assumption) ?_
                try simp only [Act.put, List.setIfInBounds_toArray, List.set_cons_zero, List.set_cons_succ]
                refine wpAnyH_take (i := 23) (oi := ({ dst := some 208, op := Op.fieldAddr 44 (Operand.tmp 207) 5, type := 0, pos := "law.go:72", after := #[{ on := 22, ground := Ground.data }, { on := 13, ground := Ground.guard }], guard := some (13, true) } : Oper)) (v := undef) rfl (by kernel_rfl) (by kernel_rfl) (by kernel_rfl) (fun _ _ _ h => h) (Or.inr ⟨by rfl, rfl⟩) (by assumption) ?_
                try simp only [Act.put, List.setIfInBounds_toArray, List.set_cons_zero, List.set_cons_succ]
                refine wpAnyH_take (i := 24) (oi := ({ dst := some 209, op := Op.load 3 (Operand.tmp 208), type := 3, pos := "law.go:72", after := #[{ on := 23, ground := Ground.data }, { on := 13, ground := Ground.guard }], guard := some (13, true) } : Oper)) (v := undef) rfl (by kernel_rfl) (by kernel_rfl) (by kernel_rfl) (fun _ _ _ h => h) (Or.inr ⟨by rfl, rfl⟩) (by assumption) ?_
                try simp only [Act.put, List.setIfInBounds_toArray, List.set_cons_zero, List.set_cons_succ]
                refine wpAnyH_take (i := 25) (oi := ({ dst := some 210, op := Op.binOp BinOp.geq 3 (Operand.tmp 204) (Operand.tmp 209) 3, type := 4, pos := "law.go:72", after := #[{ on := 19, ground := Ground.data }, { on := 24, ground := Ground.data }, { on := 13, ground := Ground.guard }], guard := some (13, true) } : Oper)) (v := undef) rfl (by kernel_rfl) (by kernel_rfl) (by kernel_rfl) (fun _ _ _ h => h) (Or.inr ⟨by rfl, rfl⟩) (by assumption) ?_
                try simp only [Act.put, List.setIfInBounds_toArray, List.set_cons_zero, List.set_cons_succ]
                refine wpAnyH_take (i := 26) (oi := ({ dst := some 211, op := Op.pick (Operand.tmp 198) (Operand.tmp 210) (Operand.const (Value.bool false)), type := 4, pos := "law.go:72", after := #[{ on := 13, ground := Ground.data }, { on := 25, ground := Ground.data }, { on := 10, ground := Ground.guard }], guard := some (10, false) } : Oper)) (v := ?_) rfl (by kernel_rfl) (by kernel_rfl) (by kernel_rfl) (fun _ _ _ h => h) (Or.inl ⟨by rfl, ?_⟩) (by assumption) ?_
                rotate_left
                · intro w hSw
                  try dsimp only at hSw
                  go_simp
                  try with_reducible rfl
                try simp only [Act.put, List.setIfInBounds_toArray, List.set_cons_zero, List.set_cons_succ]
                refine wpAnyH_take (i := 27) (oi := ({ dst := some 212, op := Op.pick (Operand.tmp 195) (Operand.const (Value.bool true)) (Operand.tmp 211), type := 4, pos := "law.go:72", after := #[{ on := 10, ground := Ground.data }, { on := 26, ground := Ground.data }], guard := none } : Oper)) (v := ?_) rfl (by kernel_rfl) (by kernel_rfl) (by kernel_rfl) (fun _ _ _ h => h) (Or.inl ⟨by rfl, ?_⟩) (by assumption) ?_
                rotate_left
                · intro w hSw
                  try dsimp only at hSw
                  go_simp
                  try with_reducible rfl
                try simp only [Act.put, List.setIfInBounds_toArray, List.set_cons_zero, List.set_cons_succ]
                refine wpAnyH_done (by kernel_rfl) ?_ _
                refine NoPanic.normal ?_
                go_wp2_with fail
                go_roundg (N - i)
                case measure => have := HK.out; omega
                case rel => exact ⟨i + 1, by go_num, by omega, ⟨by omega⟩, _, 0, rfl, ⟨by first | assumption | exact (by assumption : (Kd.C k77 _ A3x u.f3.length u.f3 ∧ Kd.C k77 _ B3x u.f3.length u.f3 ∧ Kd.C k77 _ E3 u.f3.length u.f3 ∧ _) ∧ _).1.2.2.2 | (obtain ⟨⟨_, _, _, hBf⟩, _⟩ := (by assumption : (Kd.C k77 _ A3x u.f3.length u.f3 ∧ Kd.C k77 _ B3x u.f3.length u.f3 ∧ Kd.C k77 _ E3 u.f3.length u.f3 ∧ _) ∧ _); exact hBf)⟩⟩
              · have kz : decide ((0 : Int) < (i : Int)) = true := decide_eq_true (by omega)
                have kz2 : decide (0 < i) = true := decide_eq_true (by omega)
                have kz3 : 0 < i := by omega
                obtain ⟨i1, hi1⟩ : ∃ i1 : Nat, (i : Int) - 1 = (i1 : Int) := ⟨i - 1, by omega⟩
                have hi2 : i1 + 1 = i := by omega
                obtain ⟨ac, AC, cc, ec, -, -, -, -, -, hc5, -, -⟩ := at_T44 HC3.out (i : Int) (by omega) (by omega)
                obtain ⟨ap, AP, cp, ep, -, -, -, -, -, hp5, -, -⟩ := at_T44 HC3.out (i1 : Int) (by omega) (by omega)
                obtain rfl : ad = ac := Option.some.inj ec
                obtain rfl : ad = ap := Option.some.inj ep
                have hlt := row_lt _ _ _ HROW.out i1 (by rw [HL3.out]; omega)
                rw [hi2] at hlt
                simp only [Int.toNat_natCast] at hc5 hp5
                generalize (rd_T44 lc (i : Int)).f5 = pc at hc5 hlt
                generalize (rd_T44 lc (i1 : Int)).f5 = pp at hp5 hlt
                have kAt : decide (pc ≤ pp) = false := decide_eq_false (by omega)
                replace hc5 := below_p HB5 hc5 (World.block_lt_of_cell? w4 _ hc5)
                replace hp5 := below_p HB5 hp5 (World.block_lt_of_cell? w4 _ hp5)
                have bw : IntKind.i64.wrap ((i : Int) - 1) = (i1 : Int) := by rw [IntWalk.i64_in _ (by omega)]; exact hi1
                have bi0 : i1 < N := by omega
                have bw2 : IntKind.i64.wrap (i1 : Int) = (i1 : Int) := IntWalk.i64_in _ (by omega)
                have bi4 : (1 : Int) ≤ (i : Int) := by omega
                have bi1 : ((0 : Int) ≤ (i1 : Int)) := by omega
                have bi2 : ((i1 : Int) < (N : Int)) := by omega
                have bi3 : ((i : Int) < (N : Int)) := by omega
                clear hlt hi2 ec ep
                refine wp_region_noPanic ?_
                refine wp_region_held_drew (S := fun w' => (Kd.C k77 w' A3x u.f3.length u.f3 ∧ Kd.C k77 w' B3x u.f3.length u.f3 ∧ Kd.C k77 w' E3 u.f3.length u.f3 ∧ Below w4.heap.size w4 w') ∧ w'.cell? ⟨gx, 0, none⟩ = some (.int .u8 u.f0) ∧ w'.cell? ⟨gx, 1, none⟩ = some (.string u.f1) ∧ w'.cell? ⟨gx, 2, none⟩ = some (.string u.f2) ∧ w'.cell? ⟨gx, 3, none⟩ = some (.slice A3x u.f3.length c3x) ∧ w'.cell? ⟨gx, 4, none⟩ = some (.bool u.f4) ∧ w'.cell? ⟨gx, 5, none⟩ = some (.int .i64 u.f5) ∧ w'.cell? ⟨gy, 0, none⟩ = some (.int .u8 u.f0) ∧ w'.cell? ⟨gy, 1, none⟩ = some (.string u.f1) ∧ w'.cell? ⟨gy, 2, none⟩ = some (.string u.f2) ∧ w'.cell? ⟨gy, 3, none⟩ = some (.slice B3x u.f3.length d3x) ∧ w'.cell? ⟨gy, 4, none⟩ = some (.bool u.f4) ∧ w'.cell? ⟨gy, 5, none⟩ = some (.int .i64 u.f5) ∧ w'.cell? ⟨gz, 0, none⟩ = some (.int .u8 u.f0) ∧ w'.cell? ⟨gz, 1, none⟩ = some (.string u.f1) ∧ w'.cell? ⟨gz, 2, none⟩ = some (.string u.f2) ∧ w'.cell? ⟨gz, 3, none⟩ = some (.slice E3 u.f3.length e3) ∧ w'.cell? ⟨gz, 4, none⟩ = some (.bool u.f4) ∧ w'.cell? ⟨gz, 5, none⟩ = some (.int .i64 u.f5) ∧ w'.cell? ⟨(ad.add (i * 6)).block, (ad.add (i * 6)).off + 5, none⟩ = some (.int .i64 pc) ∧ w'.cell? ⟨(ad.add (i1 * 6)).block, (ad.add (i1 * 6)).off + 5, none⟩ = some (.int .i64 pp)) (by kernel_rfl) ?_ (fun hHeld => ?_)
                · (first | (refine ⟨⟨?_, ?_, ?_, ?_⟩, ?_, ?_, ?_, ?_, ?_, ?_, ?_, ?_, ?_, ?_, ?_, ?_, ?_, ?_, ?_, ?_, ?_, ?_, ?_, ?_⟩ <;> (first | assumption | exact below_q (by assumption) (by assumption) | exact C_keep (by assumption) (by assumption) | exact C_keep (by assumption) (C_keep (below_drew (Below.refl _ _)) (by assumption)) | exact C_keep (below_drew (Below.refl _ _)) (by assumption) | exact below_r (by assumption) (by assumption) | exact below_drew (by assumption) | exact below_r (by assumption) (below_drew (by assumption)))) | (obtain ⟨⟨_, _, _, _⟩, _, _, _, _, _, _, _, _, _, _, _, _, _, _, _, _, _, _, _, _⟩ := (by assumption : (Kd.C k77 _ A3x u.f3.length u.f3 ∧ Kd.C k77 _ B3x u.f3.length u.f3 ∧ Kd.C k77 _ E3 u.f3.length u.f3 ∧ _) ∧ _); refine ⟨⟨?_, ?_, ?_, ?_⟩, ?_, ?_, ?_, ?_, ?_, ?_, ?_, ?_, ?_, ?_, ?_, ?_, ?_, ?_, ?_, ?_, ?_, ?_, ?_, ?_⟩ <;> (first | assumption | exact below_q (by assumption) (by assumption) | exact C_keep (by assumption) (by assumption) | exact C_keep (by assumption) (C_keep (below_drew (Below.refl _ _)) (by assumption)) | exact C_keep (below_drew (Below.refl _ _)) (by assumption) | exact below_r (by assumption) (by assumption) | exact below_drew (by assumption) | exact below_r (by assumption) (below_drew (by assumption)))))
                refine wpAnyH_take (i := 0) (oi := ({ dst := some 185, op := Op.load 44 (Operand.tmp 19), type := 44, pos := "law.go:72", after := #[], guard := none } : Oper)) (v := ?_) rfl (by kernel_rfl) (by kernel_rfl) (by kernel_rfl) (fun _ _ _ h => h) (Or.inl ⟨by rfl, ?_⟩) (by assumption) ?_
                rotate_left
                · intro w hSw
                  try dsimp only at hSw
                  go_simp
                  try with_reducible rfl
                try simp only [Act.put, List.setIfInBounds_toArray, List.set_cons_zero, List.set_cons_succ]
                refine wpAnyH_take (i := 1) (oi := ({ dst := some 186, op := Op.load 44 (Operand.tmp 21), type := 44, pos := "law.go:72", after := #[], guard := none } : Oper)) (v := ?_) rfl (by kernel_rfl) (by kernel_rfl) (by kernel_rfl) (fun _ _ _ h => h) (Or.inl ⟨by rfl, ?_⟩) (by assumption) ?_
                rotate_left
                · intro w hSw
                  try dsimp only at hSw
                  go_simp
                  try with_reducible rfl
                try simp only [Act.put, List.setIfInBounds_toArray, List.set_cons_zero, List.set_cons_succ]
                refine wpAnyH_ready (rs := [2]) (by kernel_rfl) (by simp) ?_
                refine AllReadyH.cons (o := ({ dst := some 187, op := Op.call { callee := Callee.value (Operand.func 25), args := #[Operand.tmp 185, Operand.tmp 186], argTypes := #[44, 44] }, type := 4, pos := "law.go:72", after := #[{ on := 0, ground := Ground.data }, { on := 1, ground := Ground.data }], guard := none } : Oper)) rfl (fun K hK => ?_) ?_
                rotate_left
                · exact AllReadyH.nil
                go_simp
                refine (alike_any u _ _ _ _ _ ?_ ?_ (by omega)).mono ?_
                · (first | assumption | exact (by assumption : (Kd.C k77 _ A3x u.f3.length u.f3 ∧ Kd.C k77 _ B3x u.f3.length u.f3 ∧ Kd.C k77 _ E3 u.f3.length u.f3 ∧ _) ∧ _).1.1 | exact (by assumption : (Kd.C k77 _ A3x u.f3.length u.f3 ∧ Kd.C k77 _ B3x u.f3.length u.f3 ∧ Kd.C k77 _ E3 u.f3.length u.f3 ∧ _) ∧ _).1.2.1 | exact (by assumption : (Kd.C k77 _ A3x u.f3.length u.f3 ∧ Kd.C k77 _ B3x u.f3.length u.f3 ∧ Kd.C k77 _ E3 u.f3.length u.f3 ∧ _) ∧ _).1.2.2.1)
                · (first | assumption | exact (by assumption : (Kd.C k77 _ A3x u.f3.length u.f3 ∧ Kd.C k77 _ B3x u.f3.length u.f3 ∧ Kd.C k77 _ E3 u.f3.length u.f3 ∧ _) ∧ _).1.1 | exact (by assumption : (Kd.C k77 _ A3x u.f3.length u.f3 ∧ Kd.C k77 _ B3x u.f3.length u.f3 ∧ Kd.C k77 _ E3 u.f3.length u.f3 ∧ _) ∧ _).1.2.1 | exact (by assumption : (Kd.C k77 _ A3x u.f3.length u.f3 ∧ Kd.C k77 _ B3x u.f3.length u.f3 ∧ Kd.C k77 _ E3 u.f3.length u.f3 ∧ _) ∧ _).1.2.2.1)
                rintro e5 w7 ⟨rfl, hb7⟩
                go_wp2_with fail
                refine hK.out _ _ ?_ (fun hHeld => ?_)
                · (first | (refine ⟨⟨?_, ?_, ?_, ?_⟩, ?_, ?_, ?_, ?_, ?_, ?_, ?_, ?_, ?_, ?_, ?_, ?_, ?_, ?_, ?_, ?_, ?_, ?_, ?_, ?_⟩ <;> (first | assumption | exact below_q (by assumption) (by assumption) | exact C_keep (by assumption) (by assumption) | exact C_keep (by assumption) (C_keep (below_drew (Below.refl _ _)) (by assumption)) | exact C_keep (below_drew (Below.refl _ _)) (by assumption) | exact below_r (by assumption) (by assumption) | exact below_drew (by assumption) | exact below_r (by assumption) (below_drew (by assumption)))) | (obtain ⟨⟨_, _, _, _⟩, _, _, _, _, _, _, _, _, _, _, _, _, _, _, _, _, _, _, _, _⟩ := (by assumption : (Kd.C k77 _ A3x u.f3.length u.f3 ∧ Kd.C k77 _ B3x u.f3.length u.f3 ∧ Kd.C k77 _ E3 u.f3.length u.f3 ∧ _) ∧ _); refine ⟨⟨?_, ?_, ?_, ?_⟩, ?_, ?_, ?_, ?_, ?_, ?_, ?_, ?_, ?_, ?_, ?_, ?_, ?_, ?_, ?_, ?_, ?_, ?_, ?_, ?_⟩ <;> (first | assumption | exact below_q (by assumption) (by assumption) | exact C_keep (by assumption) (by assumption) | exact C_keep (by assumption) (C_keep (below_drew (Below.refl _ _)) (by assumption)) | exact C_keep (below_drew (Below.refl _ _)) (by assumption) | exact below_r (by assumption) (by assumption) | exact below_drew (by assumption) | exact below_r (by assumption) (below_drew (by assumption)))))
                clear hK K
                try simp only [Act.put, List.setIfInBounds_toArray, List.set_cons_zero, List.set_cons_succ]
                refine wpAnyH_take (i := 3) (oi := ({ dst := some 188, op := Op.unOp UnOp.not 4 (Operand.tmp 187), type := 4, pos := "law.go:72", after := #[{ on := 2, ground := Ground.data }], guard := none } : Oper)) (v := ?_) rfl (by kernel_rfl) (by kernel_rfl) (by kernel_rfl) (fun _ _ _ h => h) (Or.inl ⟨by rfl, ?_⟩) (by assumption) ?_
                rotate_left
                · intro w hSw
                  try dsimp only at hSw
                  go_simp
                  try with_reducible rfl
                try simp only [Act.put, List.setIfInBounds_toArray, List.set_cons_zero, List.set_cons_succ]
                refine wpAnyH_take (i := 4) (oi := ({ dst := some 189, op := Op.move (Operand.tmp 188), type := 4, pos := "law.go:72", after := #[{ on := 3, ground := Ground.data }, { on := 2, ground := Ground.chain }], guard := none } : Oper)) (v := ?_) rfl (by kernel_rfl) (by kernel_rfl) (by kernel_rfl) (fun _ _ _ h => h) (Or.inl ⟨by rfl, ?_⟩) (by assumption) ?_
                rotate_left
                · intro w hSw
                  try dsimp only at hSw
                  go_simp
                  try with_reducible rfl
                try simp only [Act.put, List.setIfInBounds_toArray, List.set_cons_zero, List.set_cons_succ]
                refine wpAnyH_take (i := 5) (oi := ({ dst := some 190, op := Op.load 44 (Operand.tmp 20), type := 44, pos := "law.go:72", after := #[{ on := 4, ground := Ground.guard }], guard := some (4, false) } : Oper)) (v := ?_) rfl (by kernel_rfl) (by kernel_rfl) (by kernel_rfl) (fun _ _ _ h => h) (Or.inl ⟨by rfl, ?_⟩) (by assumption) ?_
                rotate_left
                · intro w hSw
                  try dsimp only at hSw
                  go_simp
                  try with_reducible rfl
                try simp only [Act.put, List.setIfInBounds_toArray, List.set_cons_zero, List.set_cons_succ]
                refine wpAnyH_take (i := 6) (oi := ({ dst := some 191, op := Op.load 44 (Operand.tmp 21), type := 44, pos := "law.go:72", after := #[{ on := 4, ground := Ground.guard }], guard := some (4, false) } : Oper)) (v := ?_) rfl (by kernel_rfl) (by kernel_rfl) (by kernel_rfl) (fun _ _ _ h => h) (Or.inl ⟨by rfl, ?_⟩) (by assumption) ?_
                rotate_left
                · intro w hSw
                  try dsimp only at hSw
                  go_simp
                  try with_reducible rfl
                try simp only [Act.put, List.setIfInBounds_toArray, List.set_cons_zero, List.set_cons_succ]
                refine wpAnyH_ready (rs := [7]) (by kernel_rfl) (by simp) ?_
                refine AllReadyH.cons (o := ({ dst := some 192, op := Op.call { callee := Callee.value (Operand.func 25), args := #[Operand.tmp 190, Operand.tmp 191], argTypes := #[44, 44] }, type := 4, pos := "law.go:72", after := #[{ on := 5, ground := Ground.data }, { on := 6, ground := Ground.data }, { on := 4, ground := Ground.chain }, { on := 4, ground := Ground.guard }], guard := some (4, false) } : Oper)) rfl (fun K hK => ?_) ?_
                rotate_left
                · exact AllReadyH.nil
                go_simp
                refine (alike_any u _ _ _ _ _ ?_ ?_ (by omega)).mono ?_
                · (first | assumption | exact (by assumption : (Kd.C k77 _ A3x u.f3.length u.f3 ∧ Kd.C k77 _ B3x u.f3.length u.f3 ∧ Kd.C k77 _ E3 u.f3.length u.f3 ∧ _) ∧ _).1.1 | exact (by assumption : (Kd.C k77 _ A3x u.f3.length u.f3 ∧ Kd.C k77 _ B3x u.f3.length u.f3 ∧ Kd.C k77 _ E3 u.f3.length u.f3 ∧ _) ∧ _).1.2.1 | exact (by assumption : (Kd.C k77 _ A3x u.f3.length u.f3 ∧ Kd.C k77 _ B3x u.f3.length u.f3 ∧ Kd.C k77 _ E3 u.f3.length u.f3 ∧ _) ∧ _).1.2.2.1)
                · (first | assumption | exact (by assumption : (Kd.C k77 _ A3x u.f3.length u.f3 ∧ Kd.C k77 _ B3x u.f3.length u.f3 ∧ Kd.C k77 _ E3 u.f3.length u.f3 ∧ _) ∧ _).1.1 | exact (by assumption : (Kd.C k77 _ A3x u.f3.length u.f3 ∧ Kd.C k77 _ B3x u.f3.length u.f3 ∧ Kd.C k77 _ E3 u.f3.length u.f3 ∧ _) ∧ _).1.2.1 | exact (by assumption : (Kd.C k77 _ A3x u.f3.length u.f3 ∧ Kd.C k77 _ B3x u.f3.length u.f3 ∧ Kd.C k77 _ E3 u.f3.length u.f3 ∧ _) ∧ _).1.2.2.1)
                rintro e5 w8 ⟨rfl, hb8⟩
                go_wp2_with fail
                refine hK.out _ _ ?_ (fun hHeld => ?_)
                · (first | (refine ⟨⟨?_, ?_, ?_, ?_⟩, ?_, ?_, ?_, ?_, ?_, ?_, ?_, ?_, ?_, ?_, ?_, ?_, ?_, ?_, ?_, ?_, ?_, ?_, ?_, ?_⟩ <;> (first | assumption | exact below_q (by assumption) (by assumption) | exact C_keep (by assumption) (by assumption) | exact C_keep (by assumption) (C_keep (below_drew (Below.refl _ _)) (by assumption)) | exact C_keep (below_drew (Below.refl _ _)) (by assumption) | exact below_r (by assumption) (by assumption) | exact below_drew (by assumption) | exact below_r (by assumption) (below_drew (by assumption)))) | (obtain ⟨⟨_, _, _, _⟩, _, _, _, _, _, _, _, _, _, _, _, _, _, _, _, _, _, _, _, _⟩ := (by assumption : (Kd.C k77 _ A3x u.f3.length u.f3 ∧ Kd.C k77 _ B3x u.f3.length u.f3 ∧ Kd.C k77 _ E3 u.f3.length u.f3 ∧ _) ∧ _); refine ⟨⟨?_, ?_, ?_, ?_⟩, ?_, ?_, ?_, ?_, ?_, ?_, ?_, ?_, ?_, ?_, ?_, ?_, ?_, ?_, ?_, ?_, ?_, ?_, ?_, ?_⟩ <;> (first | assumption | exact below_q (by assumption) (by assumption) | exact C_keep (by assumption) (by assumption) | exact C_keep (by assumption) (C_keep (below_drew (Below.refl _ _)) (by assumption)) | exact C_keep (below_drew (Below.refl _ _)) (by assumption) | exact below_r (by assumption) (by assumption) | exact below_drew (by assumption) | exact below_r (by assumption) (below_drew (by assumption)))))
                clear hK K
                try simp only [Act.put, List.setIfInBounds_toArray, List.set_cons_zero, List.set_cons_succ]
                refine wpAnyH_take (i := 8) (oi := ({ dst := some 193, op := Op.unOp UnOp.not 4 (Operand.tmp 192), type := 4, pos := "law.go:72", after := #[{ on := 7, ground := Ground.data }, { on := 4, ground := Ground.guard }], guard := some (4, false) } : Oper)) (v := ?_) rfl (by kernel_rfl) (by kernel_rfl) (by kernel_rfl) (fun _ _ _ h => h) (Or.inl ⟨by rfl, ?_⟩) (by assumption) ?_
                rotate_left
                · intro w hSw
                  try dsimp only at hSw
                  go_simp
                  try with_reducible rfl
                try simp only [Act.put, List.setIfInBounds_toArray, List.set_cons_zero, List.set_cons_succ]
                refine wpAnyH_take (i := 9) (oi := ({ dst := some 194, op := Op.pick (Operand.tmp 189) (Operand.const (Value.bool true)) (Operand.tmp 193), type := 4, pos := "law.go:72", after := #[{ on := 4, ground := Ground.data }, { on := 8, ground := Ground.data }], guard := none } : Oper)) (v := ?_) rfl (by kernel_rfl) (by kernel_rfl) (by kernel_rfl) (fun _ _ _ h => h) (Or.inl ⟨by rfl, ?_⟩) (by assumption) ?_
                rotate_left
                · intro w hSw
                  try dsimp only at hSw
                  go_simp
                  try with_reducible rfl
                try simp only [Act.put, List.setIfInBounds_toArray, List.set_cons_zero, List.set_cons_succ]
                refine wpAnyH_take (i := 10) (oi := ({ dst := some 195, op := Op.move (Operand.tmp 194), type := 4, pos := "law.go:72", after := #[{ on := 9, ground := Ground.data }, { on := 7, ground := Ground.chain }], guard := none } : Oper)) (v := ?_) rfl (by kernel_rfl) (by kernel_rfl) (by kernel_rfl) (fun _ _ _ h => h) (Or.inl ⟨by rfl, ?_⟩) (by assumption) ?_
                rotate_left
                · intro w hSw
                  try dsimp only at hSw
                  go_simp
                  try with_reducible rfl
                try simp only [Act.put, List.setIfInBounds_toArray, List.set_cons_zero, List.set_cons_succ]
                refine wpAnyH_take (i := 11) (oi := ({ dst := some 196, op := Op.move (Operand.tmp 18), type := 3, pos := "law.go:72", after := #[{ on := 10, ground := Ground.guard }], guard := some (10, false) } : Oper)) (v := ?_) rfl (by kernel_rfl) (by kernel_rfl) (by kernel_rfl) (fun _ _ _ h => h) (Or.inl ⟨by rfl, ?_⟩) (by assumption) ?_
                rotate_left
                · intro w hSw
                  try dsimp only at hSw
                  go_simp
                  try with_reducible rfl
                try simp only [Act.put, List.setIfInBounds_toArray, List.set_cons_zero, List.set_cons_succ]
                refine wpAnyH_take (i := 12) (oi := ({ dst := some 197, op := Op.binOp BinOp.gtr 3 (Operand.tmp 196) (Operand.const (Value.int IntKind.i64 0)) 3, type := 4, pos := "law.go:72", after := #[{ on := 11, ground := Ground.data }, { on := 10, ground := Ground.guard }], guard := some (10, false) } : Oper)) (v := ?_) rfl (by kernel_rfl) (by kernel_rfl) (by kernel_rfl) (fun _ _ _ h => h) (Or.inl ⟨by rfl, ?_⟩) (by assumption) ?_
                rotate_left
                · intro w hSw
                  try dsimp only at hSw
                  go_simp
                  try with_reducible rfl
                try simp only [Act.put, List.setIfInBounds_toArray, List.set_cons_zero, List.set_cons_succ]
                refine wpAnyH_take (i := 13) (oi := ({ dst := some 198, op := Op.move (Operand.tmp 197), type := 4, pos := "law.go:72", after := #[{ on := 12, ground := Ground.data }, { on := 10, ground := Ground.chain }, { on := 10, ground := Ground.guard }], guard := some (10, false) } : Oper)) (v := ?_) rfl (by kernel_rfl) (by kernel_rfl) (by kernel_rfl) (fun _ _ _ h => h) (Or.inl ⟨by rfl, ?_⟩) (by assumption) ?_
                rotate_left
                · intro w hSw
                  try dsimp only at hSw
                  go_simp
                  try with_reducible rfl
                try simp only [Act.put, List.setIfInBounds_toArray, List.set_cons_zero, List.set_cons_succ]
                refine wpAnyH_take (i := 14) (oi := ({ dst := some 199, op := Op.move (Operand.tmp 12), type := 34, pos := "law.go:72", after := #[{ on := 13, ground := Ground.guard }], guard := some (13, true) } : Oper)) (v := ?_) rfl (by kernel_rfl) (by kernel_rfl) (by kernel_rfl) (fun _ _ _ h => h) (Or.inl ⟨by rfl, ?_⟩) (by assumption) ?_
                rotate_left
                · intro w hSw
                  try dsimp only at hSw
                  go_simp
                  try with_reducible rfl
                try simp only [Act.put, List.setIfInBounds_toArray, List.set_cons_zero, List.set_cons_succ]
                refine wpAnyH_take (i := 15) (oi := ({ dst := some 200, op := Op.move (Operand.tmp 18), type := 3, pos := "law.go:72", after := #[{ on := 13, ground := Ground.guard }], guard := some (13, true) } : Oper)) (v := ?_) rfl (by kernel_rfl) (by kernel_rfl) (by kernel_rfl) (fun _ _ _ h => h) (Or.inl ⟨by rfl, ?_⟩) (by assumption) ?_
                rotate_left
                · intro w hSw
                  try dsimp only at hSw
                  go_simp
                  try with_reducible rfl
                try simp only [Act.put, List.setIfInBounds_toArray, List.set_cons_zero, List.set_cons_succ]
                refine wpAnyH_take (i := 16) (oi := ({ dst := some 201, op := Op.binOp BinOp.sub 3 (Operand.tmp 200) (Operand.const (Value.int IntKind.i64 1)) 3, type := 3, pos := "law.go:72", after := #[{ on := 15, ground := Ground.data }, { on := 13, ground := Ground.guard }], guard := some (13, true) } : Oper)) (v := ?_) rfl (by kernel_rfl) (by kernel_rfl) (by kernel_rfl) (fun _ _ _ h => h) (Or.inl ⟨by rfl, ?_⟩) (by assumption) ?_
                rotate_left
                · intro w hSw
                  try dsimp only at hSw
                  go_simp
                  try with_reducible rfl
                try simp only [Act.put, List.setIfInBounds_toArray, List.set_cons_zero, List.set_cons_succ]
                refine wpAnyH_take (i := 17) (oi := ({ dst := some 202, op := Op.indexAddr 34 (Operand.tmp 199) (Operand.tmp 201), type := 0, pos := "law.go:72", after := #[{ on := 14, ground := Ground.data }, { on := 16, ground := Ground.data }, { on := 13, ground := Ground.guard }], guard := some (13, true) } : Oper)) (v := ?_) rfl (by kernel_rfl) (by kernel_rfl) (by kernel_rfl) (fun _ _ _ h => h) (Or.inl ⟨by rfl, ?_⟩) (by assumption) ?_
                rotate_left
                · intro w hSw
                  try dsimp only at hSw
                  go_simp
                  try with_reducible rfl
                try simp only [Act.put, List.setIfInBounds_toArray, List.set_cons_zero, List.set_cons_succ]
                refine wpAnyH_take (i := 18) (oi := ({ dst := some 203, op := Op.fieldAddr 44 (Operand.tmp 202) 5, type := 0, pos := "law.go:72", after := #[{ on := 17, ground := Ground.data }, { on := 13, ground := Ground.guard }], guard := some (13, true) } : Oper)) (v := ?_) rfl (by kernel_rfl) (by kernel_rfl) (by kernel_rfl) (fun _ _ _ h => h) (Or.inl ⟨by rfl, ?_⟩) (by assumption) ?_
                rotate_left
                · intro w hSw
                  try dsimp only at hSw
                  go_simp
                  try with_reducible rfl
                try simp only [Act.put, List.setIfInBounds_toArray, List.set_cons_zero, List.set_cons_succ]
                refine wpAnyH_take (i := 19) (oi := ({ dst := some 204, op := Op.load 3 (Operand.tmp 203), type := 3, pos := "law.go:72", after := #[{ on := 18, ground := Ground.data }, { on := 13, ground := Ground.guard }], guard := some (13, true) } : Oper)) (v := ?_) rfl (by kernel_rfl) (by kernel_rfl) (by kernel_rfl) (fun _ _ _ h => h) (Or.inl ⟨by rfl, ?_⟩) (by assumption) ?_
                rotate_left
                · intro w hSw
                  try dsimp only at hSw
                  go_simp
                  try with_reducible rfl
                try simp only [Act.put, List.setIfInBounds_toArray, List.set_cons_zero, List.set_cons_succ]
                refine wpAnyH_take (i := 20) (oi := ({ dst := some 205, op := Op.move (Operand.tmp 12), type := 34, pos := "law.go:72", after := #[{ on := 13, ground := Ground.guard }], guard := some (13, true) } : Oper)) (v := ?_) rfl (by kernel_rfl) (by kernel_rfl) (by kernel_rfl) (fun _ _ _ h => h) (Or.inl ⟨by rfl, ?_⟩) (by assumption) ?_
                rotate_left
                · intro w hSw
                  try dsimp only at hSw
                  go_simp
                  try with_reducible rfl
                try simp only [Act.put, List.setIfInBounds_toArray, List.set_cons_zero, List.set_cons_succ]
                refine wpAnyH_take (i := 21) (oi := ({ dst := some 206, op := Op.move (Operand.tmp 18), type := 3, pos := "law.go:72", after := #[{ on := 13, ground := Ground.guard }], guard := some (13, true) } : Oper)) (v := ?_) rfl (by kernel_rfl) (by kernel_rfl) (by kernel_rfl) (fun _ _ _ h => h) (Or.inl ⟨by rfl, ?_⟩) (by assumption) ?_
                rotate_left
                · intro w hSw
                  try dsimp only at hSw
                  go_simp
                  try with_reducible rfl
                try simp only [Act.put, List.setIfInBounds_toArray, List.set_cons_zero, List.set_cons_succ]
                refine wpAnyH_take (i := 22) (oi := ({ dst := some 207, op := Op.indexAddr 34 (Operand.tmp 205) (Operand.tmp 206), type := 0, pos := "law.go:72", after := #[{ on := 20, ground := Ground.data }, { on := 21, ground := Ground.data }, { on := 13, ground := Ground.guard }], guard := some (13, true) } : Oper)) (v := ?_) rfl (by kernel_rfl) (by kernel_rfl) (by kernel_rfl) (fun _ _ _ h => h) (Or.inl ⟨by rfl, ?_⟩) (by assumption) ?_
                rotate_left
                · intro w hSw
                  try dsimp only at hSw
                  go_simp
                  try with_reducible rfl
                try simp only [Act.put, List.setIfInBounds_toArray, List.set_cons_zero, List.set_cons_succ]
                refine wpAnyH_take (i := 23) (oi := ({ dst := some 208, op := Op.fieldAddr 44 (Operand.tmp 207) 5, type := 0, pos := "law.go:72", after := #[{ on := 22, ground := Ground.data }, { on := 13, ground := Ground.guard }], guard := some (13, true) } : Oper)) (v := ?_) rfl (by kernel_rfl) (by kernel_rfl) (by kernel_rfl) (fun _ _ _ h => h) (Or.inl ⟨by rfl, ?_⟩) (by assumption) ?_
                rotate_left
                · intro w hSw
                  try dsimp only at hSw
                  go_simp
                  try with_reducible rfl
                try simp only [Act.put, List.setIfInBounds_toArray, List.set_cons_zero, List.set_cons_succ]
                refine wpAnyH_take (i := 24) (oi := ({ dst := some 209, op := Op.load 3 (Operand.tmp 208), type := 3, pos := "law.go:72", after := #[{ on := 23, ground := Ground.data }, { on := 13, ground := Ground.guard }], guard := some (13, true) } : Oper)) (v := ?_) rfl (by kernel_rfl) (by kernel_rfl) (by kernel_rfl) (fun _ _ _ h => h) (Or.inl ⟨by rfl, ?_⟩) (by assumption) ?_
                rotate_left
                · intro w hSw
                  try dsimp only at hSw
                  go_simp
                  try with_reducible rfl
                try simp only [Act.put, List.setIfInBounds_toArray, List.set_cons_zero, List.set_cons_succ]
                refine wpAnyH_take (i := 25) (oi := ({ dst := some 210, op := Op.binOp BinOp.geq 3 (Operand.tmp 204) (Operand.tmp 209) 3, type := 4, pos := "law.go:72", after := #[{ on := 19, ground := Ground.data }, { on := 24, ground := Ground.data }, { on := 13, ground := Ground.guard }], guard := some (13, true) } : Oper)) (v := ?_) rfl (by kernel_rfl) (by kernel_rfl) (by kernel_rfl) (fun _ _ _ h => h) (Or.inl ⟨by rfl, ?_⟩) (by assumption) ?_
                rotate_left
                · intro w hSw
                  try dsimp only at hSw
                  go_simp
                  try with_reducible rfl
                try simp only [Act.put, List.setIfInBounds_toArray, List.set_cons_zero, List.set_cons_succ]
                refine wpAnyH_take (i := 26) (oi := ({ dst := some 211, op := Op.pick (Operand.tmp 198) (Operand.tmp 210) (Operand.const (Value.bool false)), type := 4, pos := "law.go:72", after := #[{ on := 13, ground := Ground.data }, { on := 25, ground := Ground.data }, { on := 10, ground := Ground.guard }], guard := some (10, false) } : Oper)) (v := ?_) rfl (by kernel_rfl) (by kernel_rfl) (by kernel_rfl) (fun _ _ _ h => h) (Or.inl ⟨by rfl, ?_⟩) (by assumption) ?_
                rotate_left
                · intro w hSw
                  try dsimp only at hSw
                  go_simp
                  try with_reducible rfl
                try simp only [Act.put, List.setIfInBounds_toArray, List.set_cons_zero, List.set_cons_succ]
                refine wpAnyH_take (i := 27) (oi := ({ dst := some 212, op := Op.pick (Operand.tmp 195) (Operand.const (Value.bool true)) (Operand.tmp 211), type := 4, pos := "law.go:72", after := #[{ on := 10, ground := Ground.data }, { on := 26, ground := Ground.data }], guard := none } : Oper)) (v := ?_) rfl (by kernel_rfl) (by kernel_rfl) (by kernel_rfl) (fun _ _ _ h => h) (Or.inl ⟨by rfl, ?_⟩) (by assumption) ?_
                rotate_left
                · intro w hSw
                  try dsimp only at hSw
                  go_simp
                  try with_reducible rfl
                try simp only [Act.put, List.setIfInBounds_toArray, List.set_cons_zero, List.set_cons_succ]
                refine wpAnyH_done (by kernel_rfl) ?_ _
                refine NoPanic.normal ?_
                go_wp2_with fail
                go_roundg (N - i)
                case measure => have := HK.out; omega
                case rel => exact ⟨i + 1, by go_num, by omega, ⟨by omega⟩, _, 0, rfl, ⟨by first | assumption | exact (by assumption : (Kd.C k77 _ A3x u.f3.length u.f3 ∧ Kd.C k77 _ B3x u.f3.length u.f3 ∧ Kd.C k77 _ E3 u.f3.length u.f3 ∧ _) ∧ _).1.2.2.2 | (obtain ⟨⟨_, _, _, hBf⟩, _⟩ := (by assumption : (Kd.C k77 _ A3x u.f3.length u.f3 ∧ Kd.C k77 _ B3x u.f3.length u.f3 ∧ Kd.C k77 _ E3 u.f3.length u.f3 ∧ _) ∧ _); exact hBf)⟩⟩
        · have gN : ¬ i < N := h
          go_wp2_with fail
          have HBz : Aside0 (Below w.heap.size w (wb.drewN m)) := ⟨pw_below_drewN (HB.out.trans (HBw.out.mono HB.out.size)) m⟩
          refine (wakes_any _ (hG.below HBz.out)).mono ?_
          rintro e w5 ⟨rfl, hb5⟩
          have HBy := Aside0.mk (HBz.out.trans (hb5.mono HBz.out.size))
          clear hb5
          go_wp2_with fail
          go_ret
          exact ⟨rfl, HBy.out⟩
    · obtain rfl : lb = [] := HNB.out hf
      have ne1 : (eb == 0) = false := beq_eq_false_iff_ne.2 hf
      clear H2 H3
      go_enter Tryz.func5, Tryz.ntmps5
      go_wp2_with fail
      refine (token_Tokens.calls s _ _ _ _ HFS.out hG).mono ?_
      rintro e w1 ⟨v1, rfl, hS1, hb1⟩
      have HB := Aside0.mk hb1
      obtain ⟨A1, c1, rfl, hc1, hC1⟩ := Kd.S_reads hS1
      clear hS1 hb1 hC1
      go_wp2_with fail
      refine (token_Tokens.calls t _ _ _ _ HFT.out (hG.below HB.out)).mono ?_
      rintro e w2 ⟨v2, rfl, hS2, hb2⟩
      replace HB := Aside0.mk (HB.out.trans (hb2.mono HB.out.size))
      obtain ⟨A2, c2, rfl, hc2, hC2⟩ := Kd.S_reads hS2
      clear hS2 hb2 hC2
      go_wp2_with fail
      refine (wakes_any _ (hG.below HB.out)).mono ?_
      rintro e w3 ⟨rfl, hb3⟩
      replace HB := Aside0.mk (HB.out.trans (hb3.mono HB.out.size))
      clear hb3
      go_wp2_with fail
      go_ret
      exact ⟨rfl, HB.out⟩
  · obtain rfl : la = [] := HNA.out he
    have ne1 : (ea == 0) = false := beq_eq_false_iff_ne.2 he
    clear H2 H3
    go_enter Tryz.func5, Tryz.ntmps5
    go_wp2_with fail
    refine (token_Tokens.calls s _ _ _ _ HFS.out hG).mono ?_
    rintro e w1 ⟨v1, rfl, hS1, hb1⟩
    have HB := Aside0.mk hb1
    obtain ⟨A1, c1, rfl, hc1, hC1⟩ := Kd.S_reads hS1
    clear hS1 hb1 hC1
    go_wp2_with fail
    refine (token_Tokens.calls t _ _ _ _ HFT.out (hG.below HB.out)).mono ?_
    rintro e w2 ⟨v2, rfl, hS2, hb2⟩
    replace HB := Aside0.mk (HB.out.trans (hb2.mono HB.out.size))
    obtain ⟨A2, c2, rfl, hc2, hC2⟩ := Kd.S_reads hS2
    clear hS2 hb2 hC2
    go_wp2_with fail
    refine (wakes_any _ (hG.below HB.out)).mono ?_
    rintro e w3 ⟨rfl, hb3⟩
    replace HB := Aside0.mk (HB.out.trans (hb3.mono HB.out.size))
    clear hb3
    go_wp2_with fail
    go_ret
    exact ⟨rfl, HB.out⟩
end Go.Proofs.YtknfpggiigncpaaGreatDoor.C
