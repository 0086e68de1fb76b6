/- token.Tokens: what is thrown is caught; its contract. -/
import Derived.Test.YtknfpggiigncpaaGreatDoorXTok8
import Derived.Defers
import Derived.Recover
import Derived.Laws.Pointers
import Derived.RegionTactic
import Derived.BigRegion
set_option linter.unusedVariables false
set_option linter.unusedSimpArgs false
namespace Go.Proofs.YtknfpggiigncpaaGreatDoor.C
open Go.RowKit Go.Proofs.YtknfpggiigncpaaGreatDoor.P Go.Proofs.YtknfpggiigncpaaGreatDoor.A Go.Proofs.YtknfpggiigncpaaGreatDoorW.PrintWords Go.Proofs.YtknfpggiigncpaaGreatDoorW.PrintLast Go.Proofs.YtknfpggiigncpaaGreatDoorW.PrintMore

/-- The named results' blocks. -/
def Res3 (n : Nat) (v0 v1 v2 : Value) (w : World) : Prop := w.heap[n]? = some (.cells #[v0] 34 (0, 0)) ∧ w.heap[n + 1]? = some (.cells #[v1] 3 (0, 0)) ∧ w.heap[n + 2]? = some (.cells #[v2] 28 (0, 0))
theorem Res3.below {n : Nat} {v0 v1 v2 : Value} {w w1 : World} (h : Res3 n v0 v1 v2 w) (hb : ∀ k, k ≤ n + 2 → w1.heap[k]? = w.heap[k]?) : Res3 n v0 v1 v2 w1 := ⟨(hb _ (by omega)).trans h.1, (hb _ (by omega)).trans h.2.1, (hb _ (by omega)).trans h.2.2⟩
theorem res3_set {n : Nat} {v0 v1 v2 : Value} {w : World} (h : Res3 n v0 v1 v2 w) (x y z : Value) : Res3 n x y z (((w.setCell ⟨n, 0, none⟩ x).setCell ⟨n + 1, 0, none⟩ y).setCell ⟨n + 2, 0, none⟩ z) := by
  refine ⟨?_, ?_, ?_⟩
  · rw [Below.heap_setCell _ _ _ _ (show n ≠ n + 2 by omega), Below.heap_setCell _ _ _ _ (show n ≠ n + 1 by omega)]
    exact heap_setCell_same _ _ _ _ _ _ h.1
  · rw [Below.heap_setCell _ _ _ _ (show n + 1 ≠ n + 2 by omega)]
    exact heap_setCell_same _ _ _ _ _ _ ((Below.heap_setCell _ _ _ _ (show n + 1 ≠ n by omega)).trans h.2.1)
  · exact heap_setCell_same _ _ _ _ _ _ ((Below.heap_setCell _ _ _ _ (show n + 2 ≠ n + 1 by omega)).trans ((Below.heap_setCell _ _ _ _ (show n + 2 ≠ n by omega)).trans h.2.2))
def CatchPost (n a : Nat) (er : Int) (w : World) (e : Exit) (a' : Act) (w' : World) : Prop := e = .normal ∧ a'.defers = [] ∧ Res3 n (.slice none 0 0) (.int .i64 a) (.int .i64 er) w' ∧ Below n w w'
set_option maxHeartbeats 1000000 in
set_option maxRecDepth 100000 in
theorem catch_panicking (n : Nat) (v0 v1 v2 : Value) (a : Nat) (er : Int) (w : World) (h : Res3 n v0 v1 v2 w) :
    CallsD Tryz.prog 54 #[.pointer (some ⟨n, 0, none⟩), .pointer (some ⟨n + 1, 0, none⟩), .pointer (some ⟨n + 2, 0, none⟩)] (.panicking [{ v := wrongV a er, recovered := false }]) w fun e u' w' =>
      e = .returned (.tuple #[]) ∧ u' = .panicking [{ v := wrongV a er, recovered := true }] ∧ Res3 n (.slice none 0 0) (.int .i64 a) (.int .i64 er) w' ∧ Below n w w' := by
  have k0 := (cell_of_row _ _ 0 _ _ _ h.1).trans (show _ = some v0 from rfl)
  have k1 := (cell_of_row _ _ 0 _ _ _ h.2.1).trans (show _ = some v1 from rfl)
  have k2 := (cell_of_row _ _ 0 _ _ _ h.2.2).trans (show _ = some v2 from rfl)
  have f0 := frozen_of_row _ n 0 _ _ h.1
  have f1 := frozen_of_row _ (n + 1) 0 _ _ h.2.1
  have f2 := frozen_of_row _ (n + 2) 0 _ _ h.2.2
  have hta : ∀ w : World, (Instr.typeAssert (.iface 79 (.agg #[.int .i64 (a : Int), .int .i64 er])) 20 79 true).run Tryz.prog w = .ok (.tuple #[.agg #[.int .i64 (a : Int), .int .i64 er], .bool true]) w := fun _ => by kernel_rfl
  have hn0 : n < w.heap.size := (Array.getElem?_eq_some_iff.1 h.1).1
  have hn1 : n + 1 < w.heap.size := (Array.getElem?_eq_some_iff.1 h.2.1).1
  have hn2 : n + 2 < w.heap.size := (Array.getElem?_eq_some_iff.1 h.2.2).1
  have H := Lib.hid h
  clear h
  refine callsD_of_wpS Tryz.func54 rfl fun c₀ cs hu => ?_
  apply wpS_seq
  apply wpS_region
  simp [wpOpsS, go_sem, recoverD, hu, Tryz.ntmps54, Exit.thenS, wrongV]
  refine wpS_of_wp (Code.wp_mono (Q := CatchPost n a er w) ?_ ?_)
  · rintro e a' w' ⟨rfl, hd, h1, h2⟩
    refine ⟨hd, _, rfl, .tuple #[], ?_, rfl, rfl, h1, h2⟩
    simp [results, Tryz.results54, go_sem]
  · change Code.wp Tryz.prog _ (CatchPost n a er w) { tmps := #[.pointer (some ⟨n, 0, none⟩), .pointer (some ⟨n + 1, 0, none⟩), .pointer (some ⟨n + 2, 0, none⟩), .iface 79 (.agg #[.int .i64 a, .int .i64 er]), undef, undef, .iface 79 (.agg #[.int .i64 a, .int .i64 er]), undef, undef, undef, undef, undef, undef, undef, undef, undef, undef, undef, undef, undef, undef], defers := [] } w
    go_wp2
    go_region
    all_goals
      exact ⟨rfl, rfl, (res3_set H.out _ _ _).below (fun k hk => Below.heap_alloc _ _ _ (by simp [World.setCell]; omega)), ((((Below.refl n w).setCell (p := ⟨n, 0, none⟩) (Nat.le_refl _) _).setCell (p := ⟨n + 1, 0, none⟩) (Nat.le_succ _) _).setCell (p := ⟨n + 2, 0, none⟩) (by show n ≤ n + 2; omega) _).alloc (by simp [World.setCell]; omega) _ |>.drew⟩

set_option maxHeartbeats 1000000 in
set_option maxRecDepth 100000 in
theorem catch_idle (p0 p1 p2 : Addr) (w : World) :
    CallsD Tryz.prog 54 #[.pointer (some p0), .pointer (some p1), .pointer (some p2)] .returning w fun e u' w' => e = .returned (.tuple #[]) ∧ u' = .returning ∧ w' = w := by
  refine callsD_of_wpS Tryz.func54 rfl fun c₀ cs hu => ?_
  apply wpS_seq
  apply wpS_region
  simp [wpOpsS, go_sem, recoverD, hu, Tryz.ntmps54, Exit.thenS]
  refine wpS_of_wp (Code.wp_mono (Q := fun e a' w' => e = .normal ∧ a'.defers = [] ∧ w' = w) ?_ ?_)
  · rintro e a' w' ⟨rfl, hd, rfl⟩
    refine ⟨hd, .returning, ?_, .tuple #[], ?_, rfl, rfl, rfl⟩
    · cases c₀
      simp_all
    · simp [results, Tryz.results54, go_sem]
  · change Code.wp Tryz.prog _ _ { tmps := #[.pointer (some p0), .pointer (some p1), .pointer (some p2), .nilIface, undef, undef, .nilIface, undef, undef, undef, undef, undef, undef, undef, undef, undef, undef, undef, undef, undef, undef], defers := [] } w
    go_wp2
end Go.Proofs.YtknfpggiigncpaaGreatDoor.C
