/- The law's Same over the program's tokens and the document's: alike. -/
import Derived.Test.YtknfpggiigncpaaGreatDoorAx0
import Derived.Test.YtknfpggiigncpaaGreatDoorXTok5
set_option linter.unusedVariables false
set_option linter.unusedSimpArgs false
namespace Go.Proofs.YtknfpggiigncpaaGreatDoor.C
open Go.RowKit Go.Proofs.YtknfpggiigncpaaGreatDoorW.PrintWords Go.Proofs.YtknfpggiigncpaaGreatDoorW.PrintLast Go.Proofs.YtknfpggiigncpaaGreatDoorW.PrintMore

theorem new_cell (W : World) (c : Array Value) (t : TypeId) (b : Nat) (hb : W.heap.size = b) (i : Nat) : (W.alloc (.cells c t)).cell? ⟨b, i, none⟩ = c[i]? ∧ (W.alloc (.cells c t)).frozen? ⟨b, i, none⟩ = false := by
  subst hb
  exact ⟨cell_of_row _ _ _ _ _ _ (cells_alloc W c t), frozen_of_row _ _ _ _ _ (cells_alloc W c t)⟩
theorem far6 (W : World) (b : Nat) (v0 v1 v2 v3 v4 v5 : Value) (a : Addr) (h : b ≠ a.block) : ((((((W.setCell ⟨b, 0, none⟩ v0).setCell ⟨b, 1, none⟩ v1).setCell ⟨b, 2, none⟩ v2).setCell ⟨b, 3, none⟩ v3).setCell ⟨b, 4, none⟩ v4).setCell ⟨b, 5, none⟩ v5).cell? a = W.cell? a := by
  rw [World.cell?_setCell_far _ _ _ _ h, World.cell?_setCell_far _ _ _ _ h, World.cell?_setCell_far _ _ _ _ h, World.cell?_setCell_far _ _ _ _ h, World.cell?_setCell_far _ _ _ _ h, World.cell?_setCell_far _ _ _ _ h]
theorem rd_mem44 (l : List S44) (i : Nat) (h : i < l.length) : rd_T44 l (i : Int) ∈ l := by
  unfold rd_T44
  rw [Int.toNat_natCast, List.getD_eq_getElem?_getD, List.getElem?_eq_getElem h]
  exact List.getElem_mem h
def Two (w w2 : World) (gx gy : Nat) (x : S44) (A3 B3 : Option Addr) (c3 d3 : Nat) : Prop :=
  (∀ k : Nat, w2.cell? ⟨gx, k, none⟩ = (#[.int .u8 x.f0, .string x.f1, .string x.f2, .slice A3 x.f3.length c3, .bool x.f4, .int .i64 x.f5] : Array Value)[k]?)
  ∧ (∀ k : Nat, w2.cell? ⟨gy, k, none⟩ = (#[.int .u8 x.f0, .string x.f1, .string x.f2, .slice B3 x.f3.length d3, .bool x.f4, .int .i64 x.f5] : Array Value)[k]?) ∧ Below w.heap.size w w2
theorem six_row (W : World) (b : Nat) (v0 v1 v2 v3 v4 v5 u0 u1 u2 u3 u4 u5 : Value) (t : TypeId) (hb : W.heap.size = b) :
    (((((((W.alloc (.cells #[u0, u1, u2, u3, u4, u5] t)).setCell ⟨b, 0, none⟩ v0).setCell ⟨b, 1, none⟩ v1).setCell ⟨b, 2, none⟩ v2).setCell ⟨b, 3, none⟩ v3).setCell ⟨b, 4, none⟩ v4).setCell ⟨b, 5, none⟩ v5).heap[b]? = some (.cells #[v0, v1, v2, v3, v4, v5] t (0, 0)) := by
  subst hb
  exact heap_setCell_same _ _ 5 _ _ v5 (heap_setCell_same _ _ 4 _ _ v4 (heap_setCell_same _ _ 3 _ _ v3 (heap_setCell_same _ _ 2 _ _ v2 (heap_setCell_same _ _ 1 _ _ v1 (heap_setCell_same _ _ 0 _ _ v0 (cells_alloc W _ t))))))
theorem below6 {w W : World} {n b : Nat} (v0 v1 v2 v3 v4 v5 : Value) (h : Below n w W) (hb : n ≤ b) :
    Below n w ((((((W.setCell ⟨b, 0, none⟩ v0).setCell ⟨b, 1, none⟩ v1).setCell ⟨b, 2, none⟩ v2).setCell ⟨b, 3, none⟩ v3).setCell ⟨b, 4, none⟩ v4).setCell ⟨b, 5, none⟩ v5) :=
  (((((h.setCell (p := ⟨b, 0, none⟩) hb _).setCell (p := ⟨b, 1, none⟩) hb _).setCell (p := ⟨b, 2, none⟩) hb _).setCell (p := ⟨b, 3, none⟩) hb _).setCell (p := ⟨b, 4, none⟩) hb _).setCell (p := ⟨b, 5, none⟩) hb _
theorem two_rows (w : World) (n : Nat) (v0 v1 v2 v3 v4 v5 u0 u1 u2 u3 u4 u5 : Value) (d : Array Value) (t u : TypeId) :
    let W := ((((((((w.drewN n).alloc (.cells #[u0, u1, u2, u3, u4, u5] t)).setCell ⟨w.heap.size, 0, none⟩ v0).setCell ⟨w.heap.size, 1, none⟩ v1).setCell ⟨w.heap.size, 2, none⟩ v2).setCell ⟨w.heap.size, 3, none⟩ v3).setCell ⟨w.heap.size, 4, none⟩ v4).setCell ⟨w.heap.size, 5, none⟩ v5).alloc (.cells d u)
    (∀ k : Nat, W.cell? ⟨w.heap.size, k, none⟩ = (#[v0, v1, v2, v3, v4, v5] : Array Value)[k]?) ∧ (∀ k : Nat, W.cell? ⟨w.heap.size + 1, k, none⟩ = d[k]?) ∧ Below w.heap.size w W := by
  have h := six_row (w.drewN n) w.heap.size v0 v1 v2 v3 v4 v5 u0 u1 u2 u3 u4 u5 t (by simp)
  have hs : ((((((((w.drewN n).alloc (.cells #[u0, u1, u2, u3, u4, u5] t)).setCell ⟨w.heap.size, 0, none⟩ v0).setCell ⟨w.heap.size, 1, none⟩ v1).setCell ⟨w.heap.size, 2, none⟩ v2).setCell ⟨w.heap.size, 3, none⟩ v3).setCell ⟨w.heap.size, 4, none⟩ v4).setCell ⟨w.heap.size, 5, none⟩ v5).heap.size = w.heap.size + 1 := by simp
  refine ⟨fun k => cell_of_row _ _ k _ _ _ ((Below.heap_alloc _ _ _ (by rw [hs]; omega)).trans h), fun k => (new_cell _ d u _ hs k).1, ?_⟩
  exact below_alloc (below6 _ _ _ _ _ _ (below_alloc (pw_below_drewN (Below.refl _ _) _) _) (Nat.le_refl _)) _
theorem reg_two {P : Program} {c : Code} {K : Act → World → Prop} {E : Exit → Act → World → Prop} {a : Act} {w : World} (F : Act → Nat → Nat → Act) (T : World → Nat → Nat → Prop)
    (h : (∀ gx gy w', T w' gx gy → Exit.then K E .normal (F a gx gy) w') → Code.wp P c (Exit.then K E) a w)
    (hK : ∀ w' gx gy, T w' gx gy → Exit.then K E .normal (F a gx gy) w') : Code.wp P c (Exit.then K E) a w :=
  h fun gx gy w' => hK w' gx gy
def updF (i l c0 c1 : Nat) (ad bd : Addr) (vx vy : Value) (a : Act) (gx gy : Nat) : Act :=
  ⟨(((((((((a.tmps.setIfInBounds 20 (.slice (some ad) l c0)).setIfInBounds 21 (.int .i64 i)).setIfInBounds 22 (.pointer (some (ad.add (i * 6))))).setIfInBounds 23 vx).setIfInBounds 24 (.slice (some bd) l c1)).setIfInBounds 25 (.int .i64 i)).setIfInBounds 26 (.pointer (some (bd.add (i * 6))))).setIfInBounds 27 vy).setIfInBounds 6 (.pointer (some ⟨gx, 0, none⟩))).setIfInBounds 7 (.pointer (some ⟨gy, 0, none⟩)), a.defers⟩
set_option maxHeartbeats 8000000 in
set_option maxRecDepth 100000 in
theorem same_any (l : List S44) (A0 A1 : Option Addr) (c0 c1 : Nat) (w : World) (h0 : Kd.C k44 w A0 l.length l) (h1 : Kd.C k88 w A1 l.length (l.map tr44)) (hl : l.length ≤ 1048576) (ha : ∀ x ∈ l, x.f3.length ≤ 1048576) :
    Calls Tryz.prog 24 #[.slice A0 l.length c0, .slice A1 l.length c1] w fun e w' => e = .returned (.bool true) ∧ Below w.heap.size w w' := by
  have hu44 := Tryz.underlying44
  have hu88 := Tryz.underlying88
  have HA := Lib.hid ha
  clear ha
  have H0 := Lib.hid h0
  have H1 := Lib.hid h1
  clear h0 h1
  go_enter Tryz.func24, Tryz.ntmps24
  go_wp2_with fail
  go_loopg [5] (l.length + 1) (fun kq v5 wr => ∃ i : Nat, v5 = .int .i64 i ∧ i ≤ l.length ∧ Aside0 (kq + i = l.length + 1) ∧ ∃ w1 m, wr = w1.drewN m ∧ Aside0 (Below w.heap.size w w1))
  case atStart => exact ⟨0, rfl, Nat.zero_le _, ⟨by omega⟩, w, 0, rfl, ⟨Below.refl _ _⟩⟩
  case round =>
    obtain ⟨i, rfl, hi, HK, w1, m, rfl, HB⟩ := hrel
    by_cases h : i < l.length
    · obtain ⟨ad, A3, c3, e, hx0, hx1, hx2, hx3, hx4, hx5, hl3, hi3⟩ := at_T44 H0.out (i : Int) (by omega) (by omega)
      obtain ⟨bd, B3, d3, f, hy0, hy1, hy2, hy3, hy4, hy5, hm3, hj3⟩ := at_T88 H1.out (i : Int) (by omega) (by omega)
      cases e
      cases f
      rw [rd_map44 l i h] at hy0 hy1 hy2 hy3 hy4 hy5 hm3 hj3
      simp only [tr44, List.length_map, Int.toNat_natCast] at hx0 hx1 hx2 hx3 hx4 hx5 hl3 hi3 hy0 hy1 hy2 hy3 hy4 hy5 hm3 hj3
      have hx6 : (rd_T44 l (i : Int)).f3.length ≤ 1048576 := HA.out _ (rd_mem44 l i h)
      generalize rd_T44 l (i : Int) = x at *
      replace hx0 := (HB.out.cell (World.block_lt_of_cell? w _ hx0)).trans hx0
      replace hx1 := (HB.out.cell (World.block_lt_of_cell? w _ hx1)).trans hx1
      replace hx2 := (HB.out.cell (World.block_lt_of_cell? w _ hx2)).trans hx2
      replace hx3 := (HB.out.cell (World.block_lt_of_cell? w _ hx3)).trans hx3
      replace hx4 := (HB.out.cell (World.block_lt_of_cell? w _ hx4)).trans hx4
      replace hx5 := (HB.out.cell (World.block_lt_of_cell? w _ hx5)).trans hx5
      replace hy0 := (HB.out.cell (World.block_lt_of_cell? w _ hy0)).trans hy0
      replace hy1 := (HB.out.cell (World.block_lt_of_cell? w _ hy1)).trans hy1
      replace hy2 := (HB.out.cell (World.block_lt_of_cell? w _ hy2)).trans hy2
      replace hy3 := (HB.out.cell (World.block_lt_of_cell? w _ hy3)).trans hy3
      replace hy4 := (HB.out.cell (World.block_lt_of_cell? w _ hy4)).trans hy4
      replace hy5 := (HB.out.cell (World.block_lt_of_cell? w _ hy5)).trans hy5
      have HI := Lib.hid hi3
      have HJ := Lib.hid hj3
      clear hi3 hj3
      go_wp2_with fail
      refine reg_two (updF i l.length c0 c1 ad bd (.agg #[.int .u8 x.f0, .string x.f1, .string x.f2, .slice A3 x.f3.length c3, .bool x.f4, .int .i64 x.f5]) (.agg #[.int .u8 x.f0, .string x.f1, .string x.f2, .slice B3 x.f3.length d3, .bool x.f4, .int .i64 x.f5])) (fun w2 gx gy => Two w1 w2 gx gy x A3 B3 c3 d3) ?_ ?_
      · intro hQ
        simp only [updF, List.setIfInBounds_toArray, List.set_cons_zero, List.set_cons_succ] at hQ
        have HQ := Lib.hid hQ
        clear hQ
        have P0 := fun i => new_cell (w1.drewN (m + 1)) #[.int .u8 0, .string ⟨#[]⟩, .string ⟨#[]⟩, .slice none 0 0, .bool false, .int .i64 0] 44 w1.heap.size (by simp) i
        have p0a := fun i => (P0 i).1
        have p0b := fun i => (P0 i).2
        clear P0
        have P1 := fun i => new_cell ((((((((w1.drewN (m + 1)).alloc (.cells #[.int .u8 0, .string ⟨#[]⟩, .string ⟨#[]⟩, .slice none 0 0, .bool false, .int .i64 0] 44)).setCell ⟨w1.heap.size, 0, none⟩ (.int .u8 x.f0)).setCell ⟨w1.heap.size, 1, none⟩ (.string x.f1)).setCell ⟨w1.heap.size, 2, none⟩ (.string x.f2)).setCell ⟨w1.heap.size, 3, none⟩ (.slice A3 x.f3.length c3)).setCell ⟨w1.heap.size, 4, none⟩ (.bool x.f4)).setCell ⟨w1.heap.size, 5, none⟩ (.int .i64 x.f5)) #[.int .u8 0, .string ⟨#[]⟩, .string ⟨#[]⟩, .slice none 0 0, .bool false, .int .i64 0] 88 (w1.heap.size + 1) (by simp) i
        have p1a := fun i => (P1 i).1
        have p1b := fun i => (P1 i).2
        clear P1
        have P2 := fun i => new_cell (w1.drewN (m + 1)) #[.int .u8 0, .string ⟨#[]⟩, .string ⟨#[]⟩, .slice none 0 0, .bool false, .int .i64 0] 88 w1.heap.size (by simp) i
        have p2a := fun i => (P2 i).1
        have p2b := fun i => (P2 i).2
        clear P2
        have P3 := fun i => new_cell ((w1.drewN (m + 1)).alloc (.cells #[.int .u8 0, .string ⟨#[]⟩, .string ⟨#[]⟩, .slice none 0 0, .bool false, .int .i64 0] 88)) #[.int .u8 0, .string ⟨#[]⟩, .string ⟨#[]⟩, .slice none 0 0, .bool false, .int .i64 0] 44 (w1.heap.size + 1) (by simp) i
        have p3a := fun i => (P3 i).1
        have p3b := fun i => (P3 i).2
        clear P3
        have L1 : (ad.add (i * 6)).block < w1.heap.size := World.block_lt_of_cell? w1 _ hx0
        have L2 : (bd.add (i * 6)).block < w1.heap.size := World.block_lt_of_cell? w1 _ hy0
        have L3 : (bd.add (i * 6)).block < w1.heap.size + 1 := by omega
        have L4 : (ad.add (i * 6)).block < w1.heap.size + 1 := by omega
        have L5 := Nat.ne_of_lt L1
        have L6 := Nat.ne_of_lt L2
        have L7 := Nat.ne_of_lt L3
        have L8 := Nat.ne_of_lt L4
        have L9 := Nat.ne_of_gt L1
        have L10 := Nat.ne_of_gt L2
        have L11 := Nat.ne_of_gt L3
        have L12 := Nat.ne_of_gt L4
        have Rad0 := fun (c : Array Value) (t : TypeId) => (World.cell?_alloc_lt (w := w1.drewN (m + 1)) (o := .cells c t) (a := ad.add (i * 6)) L1).trans hx0
        have Rad1 := fun (c : Array Value) (t : TypeId) => (World.cell?_alloc_lt (w := w1.drewN (m + 1)) (o := .cells c t) (a := ⟨(ad.add (i * 6)).block, (ad.add (i * 6)).off + 1, none⟩) L1).trans hx1
        have Rad2 := fun (c : Array Value) (t : TypeId) => (World.cell?_alloc_lt (w := w1.drewN (m + 1)) (o := .cells c t) (a := ⟨(ad.add (i * 6)).block, (ad.add (i * 6)).off + 2, none⟩) L1).trans hx2
        have Rad3 := fun (c : Array Value) (t : TypeId) => (World.cell?_alloc_lt (w := w1.drewN (m + 1)) (o := .cells c t) (a := ⟨(ad.add (i * 6)).block, (ad.add (i * 6)).off + 3, none⟩) L1).trans hx3
        have Rad4 := fun (c : Array Value) (t : TypeId) => (World.cell?_alloc_lt (w := w1.drewN (m + 1)) (o := .cells c t) (a := ⟨(ad.add (i * 6)).block, (ad.add (i * 6)).off + 4, none⟩) L1).trans hx4
        have Rad5 := fun (c : Array Value) (t : TypeId) => (World.cell?_alloc_lt (w := w1.drewN (m + 1)) (o := .cells c t) (a := ⟨(ad.add (i * 6)).block, (ad.add (i * 6)).off + 5, none⟩) L1).trans hx5
        have Rbd0 := fun (c : Array Value) (t : TypeId) => (World.cell?_alloc_lt (w := w1.drewN (m + 1)) (o := .cells c t) (a := bd.add (i * 6)) L2).trans hy0
        have Rbd1 := fun (c : Array Value) (t : TypeId) => (World.cell?_alloc_lt (w := w1.drewN (m + 1)) (o := .cells c t) (a := ⟨(bd.add (i * 6)).block, (bd.add (i * 6)).off + 1, none⟩) L2).trans hy1
        have Rbd2 := fun (c : Array Value) (t : TypeId) => (World.cell?_alloc_lt (w := w1.drewN (m + 1)) (o := .cells c t) (a := ⟨(bd.add (i * 6)).block, (bd.add (i * 6)).off + 2, none⟩) L2).trans hy2
        have Rbd3 := fun (c : Array Value) (t : TypeId) => (World.cell?_alloc_lt (w := w1.drewN (m + 1)) (o := .cells c t) (a := ⟨(bd.add (i * 6)).block, (bd.add (i * 6)).off + 3, none⟩) L2).trans hy3
        have Rbd4 := fun (c : Array Value) (t : TypeId) => (World.cell?_alloc_lt (w := w1.drewN (m + 1)) (o := .cells c t) (a := ⟨(bd.add (i * 6)).block, (bd.add (i * 6)).off + 4, none⟩) L2).trans hy4
        have Rbd5 := fun (c : Array Value) (t : TypeId) => (World.cell?_alloc_lt (w := w1.drewN (m + 1)) (o := .cells c t) (a := ⟨(bd.add (i * 6)).block, (bd.add (i * 6)).off + 5, none⟩) L2).trans hy5
        have S0 : ((((((((w1.drewN (m + 1)).alloc (.cells #[.int .u8 0, .string ⟨#[]⟩, .string ⟨#[]⟩, .slice none 0 0, .bool false, .int .i64 0] 44)).setCell ⟨w1.heap.size, 0, none⟩ (.int .u8 x.f0)).setCell ⟨w1.heap.size, 1, none⟩ (.string x.f1)).setCell ⟨w1.heap.size, 2, none⟩ (.string x.f2)).setCell ⟨w1.heap.size, 3, none⟩ (.slice A3 x.f3.length c3)).setCell ⟨w1.heap.size, 4, none⟩ (.bool x.f4)).setCell ⟨w1.heap.size, 5, none⟩ (.int .i64 x.f5)).cell? (bd.add (i * 6)) = _ := (far6 _ _ _ _ _ _ _ _ _ (by show _ ≠ (bd.add (i * 6)).block; omega)).trans (Rbd0 _ _)
        have T0 : (((((((((w1.drewN (m + 1)).alloc (.cells #[.int .u8 0, .string ⟨#[]⟩, .string ⟨#[]⟩, .slice none 0 0, .bool false, .int .i64 0] 88)).alloc (.cells #[.int .u8 0, .string ⟨#[]⟩, .string ⟨#[]⟩, .slice none 0 0, .bool false, .int .i64 0] 44)).setCell ⟨(w1.heap.size + 1), 0, none⟩ (.int .u8 x.f0)).setCell ⟨(w1.heap.size + 1), 1, none⟩ (.string x.f1)).setCell ⟨(w1.heap.size + 1), 2, none⟩ (.string x.f2)).setCell ⟨(w1.heap.size + 1), 3, none⟩ (.slice A3 x.f3.length c3)).setCell ⟨(w1.heap.size + 1), 4, none⟩ (.bool x.f4)).setCell ⟨(w1.heap.size + 1), 5, none⟩ (.int .i64 x.f5)).cell? (bd.add (i * 6)) = _ := (far6 _ _ _ _ _ _ _ _ _ (by show _ ≠ (bd.add (i * 6)).block; omega)).trans ((World.cell?_alloc_lt _ _ _ (by show (bd.add (i * 6)).block < _; simp; omega)).trans (Rbd0 _ _))
        have S1 : ((((((((w1.drewN (m + 1)).alloc (.cells #[.int .u8 0, .string ⟨#[]⟩, .string ⟨#[]⟩, .slice none 0 0, .bool false, .int .i64 0] 44)).setCell ⟨w1.heap.size, 0, none⟩ (.int .u8 x.f0)).setCell ⟨w1.heap.size, 1, none⟩ (.string x.f1)).setCell ⟨w1.heap.size, 2, none⟩ (.string x.f2)).setCell ⟨w1.heap.size, 3, none⟩ (.slice A3 x.f3.length c3)).setCell ⟨w1.heap.size, 4, none⟩ (.bool x.f4)).setCell ⟨w1.heap.size, 5, none⟩ (.int .i64 x.f5)).cell? ⟨(bd.add (i * 6)).block, (bd.add (i * 6)).off + 1, none⟩ = _ := (far6 _ _ _ _ _ _ _ _ _ (by show _ ≠ (bd.add (i * 6)).block; omega)).trans (Rbd1 _ _)
        have T1 : (((((((((w1.drewN (m + 1)).alloc (.cells #[.int .u8 0, .string ⟨#[]⟩, .string ⟨#[]⟩, .slice none 0 0, .bool false, .int .i64 0] 88)).alloc (.cells #[.int .u8 0, .string ⟨#[]⟩, .string ⟨#[]⟩, .slice none 0 0, .bool false, .int .i64 0] 44)).setCell ⟨(w1.heap.size + 1), 0, none⟩ (.int .u8 x.f0)).setCell ⟨(w1.heap.size + 1), 1, none⟩ (.string x.f1)).setCell ⟨(w1.heap.size + 1), 2, none⟩ (.string x.f2)).setCell ⟨(w1.heap.size + 1), 3, none⟩ (.slice A3 x.f3.length c3)).setCell ⟨(w1.heap.size + 1), 4, none⟩ (.bool x.f4)).setCell ⟨(w1.heap.size + 1), 5, none⟩ (.int .i64 x.f5)).cell? ⟨(bd.add (i * 6)).block, (bd.add (i * 6)).off + 1, none⟩ = _ := (far6 _ _ _ _ _ _ _ _ _ (by show _ ≠ (bd.add (i * 6)).block; omega)).trans ((World.cell?_alloc_lt _ _ _ (by show (bd.add (i * 6)).block < _; simp; omega)).trans (Rbd1 _ _))
        have S2 : ((((((((w1.drewN (m + 1)).alloc (.cells #[.int .u8 0, .string ⟨#[]⟩, .string ⟨#[]⟩, .slice none 0 0, .bool false, .int .i64 0] 44)).setCell ⟨w1.heap.size, 0, none⟩ (.int .u8 x.f0)).setCell ⟨w1.heap.size, 1, none⟩ (.string x.f1)).setCell ⟨w1.heap.size, 2, none⟩ (.string x.f2)).setCell ⟨w1.heap.size, 3, none⟩ (.slice A3 x.f3.length c3)).setCell ⟨w1.heap.size, 4, none⟩ (.bool x.f4)).setCell ⟨w1.heap.size, 5, none⟩ (.int .i64 x.f5)).cell? ⟨(bd.add (i * 6)).block, (bd.add (i * 6)).off + 2, none⟩ = _ := (far6 _ _ _ _ _ _ _ _ _ (by show _ ≠ (bd.add (i * 6)).block; omega)).trans (Rbd2 _ _)
        have T2 : (((((((((w1.drewN (m + 1)).alloc (.cells #[.int .u8 0, .string ⟨#[]⟩, .string ⟨#[]⟩, .slice none 0 0, .bool false, .int .i64 0] 88)).alloc (.cells #[.int .u8 0, .string ⟨#[]⟩, .string ⟨#[]⟩, .slice none 0 0, .bool false, .int .i64 0] 44)).setCell ⟨(w1.heap.size + 1), 0, none⟩ (.int .u8 x.f0)).setCell ⟨(w1.heap.size + 1), 1, none⟩ (.string x.f1)).setCell ⟨(w1.heap.size + 1), 2, none⟩ (.string x.f2)).setCell ⟨(w1.heap.size + 1), 3, none⟩ (.slice A3 x.f3.length c3)).setCell ⟨(w1.heap.size + 1), 4, none⟩ (.bool x.f4)).setCell ⟨(w1.heap.size + 1), 5, none⟩ (.int .i64 x.f5)).cell? ⟨(bd.add (i * 6)).block, (bd.add (i * 6)).off + 2, none⟩ = _ := (far6 _ _ _ _ _ _ _ _ _ (by show _ ≠ (bd.add (i * 6)).block; omega)).trans ((World.cell?_alloc_lt _ _ _ (by show (bd.add (i * 6)).block < _; simp; omega)).trans (Rbd2 _ _))
        have S3 : ((((((((w1.drewN (m + 1)).alloc (.cells #[.int .u8 0, .string ⟨#[]⟩, .string ⟨#[]⟩, .slice none 0 0, .bool false, .int .i64 0] 44)).setCell ⟨w1.heap.size, 0, none⟩ (.int .u8 x.f0)).setCell ⟨w1.heap.size, 1, none⟩ (.string x.f1)).setCell ⟨w1.heap.size, 2, none⟩ (.string x.f2)).setCell ⟨w1.heap.size, 3, none⟩ (.slice A3 x.f3.length c3)).setCell ⟨w1.heap.size, 4, none⟩ (.bool x.f4)).setCell ⟨w1.heap.size, 5, none⟩ (.int .i64 x.f5)).cell? ⟨(bd.add (i * 6)).block, (bd.add (i * 6)).off + 3, none⟩ = _ := (far6 _ _ _ _ _ _ _ _ _ (by show _ ≠ (bd.add (i * 6)).block; omega)).trans (Rbd3 _ _)
        have T3 : (((((((((w1.drewN (m + 1)).alloc (.cells #[.int .u8 0, .string ⟨#[]⟩, .string ⟨#[]⟩, .slice none 0 0, .bool false, .int .i64 0] 88)).alloc (.cells #[.int .u8 0, .string ⟨#[]⟩, .string ⟨#[]⟩, .slice none 0 0, .bool false, .int .i64 0] 44)).setCell ⟨(w1.heap.size + 1), 0, none⟩ (.int .u8 x.f0)).setCell ⟨(w1.heap.size + 1), 1, none⟩ (.string x.f1)).setCell ⟨(w1.heap.size + 1), 2, none⟩ (.string x.f2)).setCell ⟨(w1.heap.size + 1), 3, none⟩ (.slice A3 x.f3.length c3)).setCell ⟨(w1.heap.size + 1), 4, none⟩ (.bool x.f4)).setCell ⟨(w1.heap.size + 1), 5, none⟩ (.int .i64 x.f5)).cell? ⟨(bd.add (i * 6)).block, (bd.add (i * 6)).off + 3, none⟩ = _ := (far6 _ _ _ _ _ _ _ _ _ (by show _ ≠ (bd.add (i * 6)).block; omega)).trans ((World.cell?_alloc_lt _ _ _ (by show (bd.add (i * 6)).block < _; simp; omega)).trans (Rbd3 _ _))
        have S4 : ((((((((w1.drewN (m + 1)).alloc (.cells #[.int .u8 0, .string ⟨#[]⟩, .string ⟨#[]⟩, .slice none 0 0, .bool false, .int .i64 0] 44)).setCell ⟨w1.heap.size, 0, none⟩ (.int .u8 x.f0)).setCell ⟨w1.heap.size, 1, none⟩ (.string x.f1)).setCell ⟨w1.heap.size, 2, none⟩ (.string x.f2)).setCell ⟨w1.heap.size, 3, none⟩ (.slice A3 x.f3.length c3)).setCell ⟨w1.heap.size, 4, none⟩ (.bool x.f4)).setCell ⟨w1.heap.size, 5, none⟩ (.int .i64 x.f5)).cell? ⟨(bd.add (i * 6)).block, (bd.add (i * 6)).off + 4, none⟩ = _ := (far6 _ _ _ _ _ _ _ _ _ (by show _ ≠ (bd.add (i * 6)).block; omega)).trans (Rbd4 _ _)
        have T4 : (((((((((w1.drewN (m + 1)).alloc (.cells #[.int .u8 0, .string ⟨#[]⟩, .string ⟨#[]⟩, .slice none 0 0, .bool false, .int .i64 0] 88)).alloc (.cells #[.int .u8 0, .string ⟨#[]⟩, .string ⟨#[]⟩, .slice none 0 0, .bool false, .int .i64 0] 44)).setCell ⟨(w1.heap.size + 1), 0, none⟩ (.int .u8 x.f0)).setCell ⟨(w1.heap.size + 1), 1, none⟩ (.string x.f1)).setCell ⟨(w1.heap.size + 1), 2, none⟩ (.string x.f2)).setCell ⟨(w1.heap.size + 1), 3, none⟩ (.slice A3 x.f3.length c3)).setCell ⟨(w1.heap.size + 1), 4, none⟩ (.bool x.f4)).setCell ⟨(w1.heap.size + 1), 5, none⟩ (.int .i64 x.f5)).cell? ⟨(bd.add (i * 6)).block, (bd.add (i * 6)).off + 4, none⟩ = _ := (far6 _ _ _ _ _ _ _ _ _ (by show _ ≠ (bd.add (i * 6)).block; omega)).trans ((World.cell?_alloc_lt _ _ _ (by show (bd.add (i * 6)).block < _; simp; omega)).trans (Rbd4 _ _))
        have S5 : ((((((((w1.drewN (m + 1)).alloc (.cells #[.int .u8 0, .string ⟨#[]⟩, .string ⟨#[]⟩, .slice none 0 0, .bool false, .int .i64 0] 44)).setCell ⟨w1.heap.size, 0, none⟩ (.int .u8 x.f0)).setCell ⟨w1.heap.size, 1, none⟩ (.string x.f1)).setCell ⟨w1.heap.size, 2, none⟩ (.string x.f2)).setCell ⟨w1.heap.size, 3, none⟩ (.slice A3 x.f3.length c3)).setCell ⟨w1.heap.size, 4, none⟩ (.bool x.f4)).setCell ⟨w1.heap.size, 5, none⟩ (.int .i64 x.f5)).cell? ⟨(bd.add (i * 6)).block, (bd.add (i * 6)).off + 5, none⟩ = _ := (far6 _ _ _ _ _ _ _ _ _ (by show _ ≠ (bd.add (i * 6)).block; omega)).trans (Rbd5 _ _)
        have T5 : (((((((((w1.drewN (m + 1)).alloc (.cells #[.int .u8 0, .string ⟨#[]⟩, .string ⟨#[]⟩, .slice none 0 0, .bool false, .int .i64 0] 88)).alloc (.cells #[.int .u8 0, .string ⟨#[]⟩, .string ⟨#[]⟩, .slice none 0 0, .bool false, .int .i64 0] 44)).setCell ⟨(w1.heap.size + 1), 0, none⟩ (.int .u8 x.f0)).setCell ⟨(w1.heap.size + 1), 1, none⟩ (.string x.f1)).setCell ⟨(w1.heap.size + 1), 2, none⟩ (.string x.f2)).setCell ⟨(w1.heap.size + 1), 3, none⟩ (.slice A3 x.f3.length c3)).setCell ⟨(w1.heap.size + 1), 4, none⟩ (.bool x.f4)).setCell ⟨(w1.heap.size + 1), 5, none⟩ (.int .i64 x.f5)).cell? ⟨(bd.add (i * 6)).block, (bd.add (i * 6)).off + 5, none⟩ = _ := (far6 _ _ _ _ _ _ _ _ _ (by show _ ≠ (bd.add (i * 6)).block; omega)).trans ((World.cell?_alloc_lt _ _ _ (by show (bd.add (i * 6)).block < _; simp; omega)).trans (Rbd5 _ _))
        go_region_law (fail)
        all_goals
          clear Rad0 Rad1 Rad2 Rad3 Rad4 Rad5 Rbd0 Rbd1 Rbd2 Rbd3 Rbd4 Rbd5 S0 S1 S2 S3 S4 S5 T0 T1 T2 T3 T4 T5 p0a p0b p1a p1b p2a p2b p3a p3b
        all_goals generalize hW : World.alloc _ _ = w2
        all_goals
          first
          | (with_reducible refine HQ.out w1.heap.size (w1.heap.size + 1) _ ?_
             rw [← hW]
             exact two_rows w1 (m + 1) (.int .u8 x.f0) (.string x.f1) (.string x.f2) (.slice A3 x.f3.length c3) (.bool x.f4) (.int .i64 x.f5) (.int .u8 0) (.string ⟨#[]⟩) (.string ⟨#[]⟩) (.slice none 0 0) (.bool false) (.int .i64 0) #[.int .u8 x.f0, .string x.f1, .string x.f2, .slice B3 x.f3.length d3, .bool x.f4, .int .i64 x.f5] 44 88)
          | (with_reducible refine HQ.out (w1.heap.size + 1) w1.heap.size _ ?_
             rw [← hW]
             have hh := two_rows w1 (m + 1) (.int .u8 x.f0) (.string x.f1) (.string x.f2) (.slice B3 x.f3.length d3) (.bool x.f4) (.int .i64 x.f5) (.int .u8 0) (.string ⟨#[]⟩) (.string ⟨#[]⟩) (.slice none 0 0) (.bool false) (.int .i64 0) #[.int .u8 x.f0, .string x.f1, .string x.f2, .slice A3 x.f3.length c3, .bool x.f4, .int .i64 x.f5] 88 44
             exact ⟨hh.2.1, hh.1, hh.2.2⟩)
      clear hx0 hx1 hx2 hx3 hx4 hx5 hy0 hy1 hy2 hy3 hy4 hy5
      rintro w2 gx gy ⟨hX, hY, hB⟩
      simp only [updF, List.setIfInBounds_toArray, List.set_cons_zero, List.set_cons_succ]
      have x0 := hX 0
      have x1 := hX 1
      have x2 := hX 2
      have x3 := hX 3
      have x4 := hX 4
      have x5 := hX 5
      have y0 := hY 0
      have y1 := hY 1
      have y2 := hY 2
      have y3 := hY 3
      have y4 := hY 4
      have y5 := hY 5
      simp at x0 x1 x2 x3 x4 x5 y0 y1 y2 y3 y4 y5
      clear hX hY
      replace hB := Lib.hid hB
      go_wp2_with fail
      go_loopg [8] (x.f3.length + 1) (fun kq v8 wr => ∃ k : Nat, v8 = .int .i64 k ∧ k ≤ x.f3.length ∧ Aside0 (kq + k = x.f3.length + 1) ∧ Drawn0 w2 wr)
      case atStart => exact ⟨0, rfl, Nat.zero_le _, ⟨by omega⟩, by repeat (first | exact Drawn0.refl _ | apply Drawn0.step)⟩
      case round =>
        obtain ⟨k, rfl, hk, HK2, ⟨n, rfl⟩⟩ := hrel
        by_cases h2 : k < x.f3.length
        · obtain ⟨ae, e, ha0, ha1⟩ := at_T77 HI.out (k : Int) (by omega) (by omega)
          obtain ⟨be, f, hb0, hb1⟩ := at_T92 HJ.out (k : Int) (by omega) (by omega)
          cases e
          cases f
          rw [rd_map77 _ k h2] at hb0 hb1
          simp only [tr77, Int.toNat_natCast] at ha0 ha1 hb0 hb1
          generalize rd_T77 x.f3 (k : Int) = y at *
          have HB2 := HB.out.trans (hB.out.mono HB.out.size)
          replace ha0 := (HB2.cell (World.block_lt_of_cell? w _ ha0)).trans ha0
          replace ha1 := (HB2.cell (World.block_lt_of_cell? w _ ha1)).trans ha1
          replace hb0 := (HB2.cell (World.block_lt_of_cell? w _ hb0)).trans hb0
          replace hb1 := (HB2.cell (World.block_lt_of_cell? w _ hb1)).trans hb1
          clear HB2
          go_wp2_with fail
          refine wp_region_quiet_lit (by kernel_rfl) (by kernel_rfl) ?_
          repeat (go_big_quiet_step (fail))
          refine wpQuiet_nil ?_
          intro _ h
          obtain ⟨nq, h'⟩ := h
          subst h'
          go_wp2_with fail
          go_roundg (x.f3.length - k)
          case measure => have := HK2.out; omega
          case rel => exact ⟨k + 1, by go_num, by omega, ⟨by omega⟩, by repeat (first | exact Drawn0.refl _ | apply Drawn0.step)⟩
        · go_wp2_with fail
          go_roundg (l.length - i)
          case measure => have := HK.out; omega
          case rel => exact ⟨i + 1, by go_num, by omega, ⟨by omega⟩, w2, _, rfl, ⟨HB.out.trans (hB.out.mono HB.out.size)⟩⟩
    · go_wp2_with fail
      go_ret
      exact ⟨rfl, by repeat (first | exact HB.out | apply pw_below_drewN)⟩
end Go.Proofs.YtknfpggiigncpaaGreatDoor.C
