/- Two tokens that are alike are told alike. -/
import Derived.Test.YtknfpggiigncpaaGreatDoorXTok6
set_option linter.unusedVariables false
set_option linter.unusedSimpArgs false
namespace Go.Proofs.YtknfpggiigncpaaGreatDoor.C
open Go.RowKit Go.Proofs.YtknfpggiigncpaaGreatDoor.P Go.Proofs.YtknfpggiigncpaaGreatDoorW.PrintWords Go.Proofs.YtknfpggiigncpaaGreatDoorW.PrintLast Go.Proofs.YtknfpggiigncpaaGreatDoorW.PrintMore

set_option maxHeartbeats 4000000 in
set_option maxRecDepth 100000 in
theorem alike_any (x : S44) (A B : Option Addr) (c d : Nat) (w : World) (h0 : Kd.C k77 w A x.f3.length x.f3) (h1 : Kd.C k77 w B x.f3.length x.f3) (hl : x.f3.length ≤ 1048576) :
    Calls Tryz.prog 25 #[.agg #[.int .u8 x.f0, .string x.f1, .string x.f2, .slice A x.f3.length c, .bool x.f4, .int .i64 x.f5], .agg #[.int .u8 x.f0, .string x.f1, .string x.f2, .slice B x.f3.length d, .bool x.f4, .int .i64 x.f5]] w fun e w' => e = .returned (.bool true) ∧ Below w.heap.size w w' := by
  have HI := Lib.hid h0
  have HJ := Lib.hid h1
  clear h0 h1
  go_enter Tryz.func25, Tryz.ntmps25
  go_wp2_with fail
  go_loopg [5] (x.f3.length + 1) (fun kq v5 wr => ∃ (k : Nat) (w1 : World) (n : Nat), v5 = .int .i64 k ∧ k ≤ x.f3.length ∧ Aside0 (kq + k = x.f3.length + 1) ∧ w1 = (w.alloc (.cells #[.int .u8 x.f0, .string x.f1, .string x.f2, .slice A x.f3.length c, .bool x.f4, .int .i64 x.f5] 44)).alloc (.cells #[.int .u8 x.f0, .string x.f1, .string x.f2, .slice B x.f3.length d, .bool x.f4, .int .i64 x.f5] 44) ∧ wr = w1.drewN n)
  case atStart => exact ⟨0, _, 0, rfl, Nat.zero_le _, ⟨by omega⟩, rfl, rfl⟩
  case round =>
    obtain ⟨k, w1, n, rfl, hk, HK, hw1, rfl⟩ := hrel
    have HB2 : Below w.heap.size w w1 := by rw [hw1]; exact below_alloc (below_alloc (Below.refl _ _) _) _
    have x3 : w1.cell? ⟨w.heap.size, 3, none⟩ = some (.slice A x.f3.length c) := by
      rw [hw1, World.cell?_alloc_lt _ _ _ (by simp)]
      exact cell_of_row _ _ 3 _ _ _ (cells_alloc w _ 44)
    have y3 : w1.cell? ⟨w.heap.size + 1, 3, none⟩ = some (.slice B x.f3.length d) := by
      rw [hw1]
      have := cell_of_row _ _ 3 _ _ _ (cells_alloc (w.alloc (.cells #[.int .u8 x.f0, .string x.f1, .string x.f2, .slice A x.f3.length c, .bool x.f4, .int .i64 x.f5] 44)) #[.int .u8 x.f0, .string x.f1, .string x.f2, .slice B x.f3.length d, .bool x.f4, .int .i64 x.f5] 44)
      rw [show (w.alloc (.cells #[.int .u8 x.f0, .string x.f1, .string x.f2, .slice A x.f3.length c, .bool x.f4, .int .i64 x.f5] 44)).heap.size = w.heap.size + 1 by simp] at this
      exact this
    by_cases h2 : k < x.f3.length
    · obtain ⟨ae, e, ha0, ha1⟩ := at_T77 HI.out (k : Int) (by omega) (by omega)
      obtain ⟨be, f, hb0, hb1⟩ := at_T77 HJ.out (k : Int) (by omega) (by omega)
      cases e
      cases f
      simp only [Int.toNat_natCast] at ha0 ha1 hb0 hb1
      generalize rd_T77 x.f3 (k : Int) = y at *
      replace ha0 := (HB2.cell (World.block_lt_of_cell? w _ ha0)).trans ha0
      replace ha1 := (HB2.cell (World.block_lt_of_cell? w _ ha1)).trans ha1
      replace hb0 := (HB2.cell (World.block_lt_of_cell? w _ hb0)).trans hb0
      replace hb1 := (HB2.cell (World.block_lt_of_cell? w _ hb1)).trans hb1
      have HW := Lib.hid hw1
      clear HB2 hw1
      go_wp2_with fail
      refine wp_region_quiet_lit (by kernel_rfl) (by kernel_rfl) ?_
      repeat (go_big_quiet_step (fail))
      refine wpQuiet_nil ?_
      intro _ h
      obtain ⟨nq, h'⟩ := h
      subst h'
      go_wp2_with fail
      go_roundg (x.f3.length - k)
      case measure => have := HK.out; omega
      case rel => exact ⟨k + 1, w1, _, by go_num, by omega, ⟨by omega⟩, HW.out, rfl⟩
    · have HW := Lib.hid hw1
      clear HB2 hw1
      go_wp2_with fail
      go_ret
      exact ⟨rfl, by rw [HW.out]; repeat (first | exact Below.refl _ _ | apply pw_below_drewN | apply below_alloc)⟩
end Go.Proofs.YtknfpggiigncpaaGreatDoor.C
