/- token.Tokens: its contract. -/
import Derived.Test.YtknfpggiigncpaaGreatDoorXTok8
import Derived.Defers
import Derived.Recover
import Derived.Laws.Pointers
import Derived.RegionTactic
import Derived.BigRegion
import Derived.Test.YtknfpggiigncpaaGreatDoorOt1
set_option maxHeartbeats 4000000
set_option maxRecDepth 100000
set_option linter.unusedVariables false
set_option linter.unusedSimpArgs false
section
namespace Go.Proofs.YtknfpggiigncpaaGreatDoor.C
open Go.RowKit P A YtknfpggiigncpaaGreatDoorW.PrintWords YtknfpggiigncpaaGreatDoorW.PrintLast YtknfpggiigncpaaGreatDoorW.PrintMore
def Res3 (n : Nat) (v0 v1 v2 : Value) (w : World) : Prop := w.heap[n]? = some (.cells #[v0] 34 (0, 0)) ∧ w.heap[n + 1]? = some (.cells #[v1] 3 (0, 0)) ∧ w.heap[n + 2]? = some (.cells #[v2] 28 (0, 0))
theorem Res3.below {n : Nat} {v0 v1 v2 : Value} {w w1 : World} (h : Res3 n v0 v1 v2 w) (hb : ∀ k, k ≤ n + 2 → w1.heap[k]? = w.heap[k]?) : Res3 n v0 v1 v2 w1 := ⟨(hb _ (by omega)).trans h.1, (hb _ (by omega)).trans h.2.1, (hb _ (by omega)).trans h.2.2⟩
theorem res3_set {n : Nat} {v0 v1 v2 : Value} {w : World} (h : Res3 n v0 v1 v2 w) (x y z : Value) : Res3 n x y z (((w.setCell ⟨n, 0, none⟩ x).setCell ⟨n + 1, 0, none⟩ y).setCell ⟨n + 2, 0, none⟩ z) := by
 refine ⟨?_, ?_, ?_⟩
 ·
  rw [Below.heap_setCell _ _ _ _ (show n ≠ n + 2 by omega), Below.heap_setCell _ _ _ _ (show n ≠ n + 1 by omega)]
  exact heap_setCell_same _ _ _ _ _ _ h.1
 ·
  rw [Below.heap_setCell _ _ _ _ (show n + 1 ≠ n + 2 by omega)]
  exact heap_setCell_same _ _ _ _ _ _ ((Below.heap_setCell _ _ _ _ (show n + 1 ≠ n by omega)).trans h.2.1)
 ·
  exact heap_setCell_same _ _ _ _ _ _ ((Below.heap_setCell _ _ _ _ (show n + 2 ≠ n + 1 by omega)).trans ((Below.heap_setCell _ _ _ _ (show n + 2 ≠ n by omega)).trans h.2.2))
def CatchPost (n a : Nat) (er : Int) (w : World) (e : Exit) (a' : Act) (w' : World) : Prop := e = .normal ∧ a'.defers = [] ∧ Res3 n (.slice none 0 0) (.int .i64 a) (.int .i64 er) w' ∧ Below n w w'
theorem catch_panicking (n : Nat) (v0 v1 v2 : Value) (a : Nat) (er : Int) (w : World) (h : Res3 n v0 v1 v2 w) :
  CallsD Tryz.prog 54 #[.pointer (some ⟨n, 0, none⟩), .pointer (some ⟨n + 1, 0, none⟩), .pointer (some ⟨n + 2, 0, none⟩)] (.panicking [{ v := wrongV a er, recovered := false }]) w fun e u' w' =>
   e = .returned (.tuple #[]) ∧ u' = .panicking [{ v := wrongV a er, recovered := true }] ∧ Res3 n (.slice none 0 0) (.int .i64 a) (.int .i64 er) w' ∧ Below n w w' := by
 have k0 := crow 0 v0 h.1
 have k1 := crow 0 v1 h.2.1
 have k2 := crow 0 v2 h.2.2
 have f0 := frozen_of_row _ n 0 _ _ h.1
 have f1 := frozen_of_row _ (n + 1) 0 _ _ h.2.1
 have f2 := frozen_of_row _ (n + 2) 0 _ _ h.2.2
 have hta : ∀ w : World, (Instr.typeAssert (.iface 79 (.agg #[.int .i64 (a : Int), .int .i64 er])) 20 79 true).run Tryz.prog w = .ok (.tuple #[.agg #[.int .i64 (a : Int), .int .i64 er], .bool true]) w := fun _ => by kernel_rfl
 have hn0 : n < w.heap.size := (Array.getElem?_eq_some_iff.1 h.1).1
 have hn1 : n + 1 < w.heap.size := (Array.getElem?_eq_some_iff.1 h.2.1).1
 have hn2 : n + 2 < w.heap.size := (Array.getElem?_eq_some_iff.1 h.2.2).1
 have H := Lib.hid h
 clear h
 refine callsD_of_wpS Tryz.func54 rfl fun c₀ cs hu => ?_
 apply wpS_seq
 apply wpS_region
 simp [wpOpsS, go_sem, recoverD, hu, Tryz.ntmps54, Exit.thenS, wrongV]
 refine wpS_of_wp (Code.wp_mono (Q := CatchPost n a er w) ?_ ?_)
 ·
  rintro e a' w' ⟨rfl, hd, h1, h2⟩
  refine ⟨hd, _, rfl, .tuple #[], ?_, rfl, rfl, h1, h2⟩
  simp [results, Tryz.results54, go_sem]
 ·
  change Code.wp Tryz.prog _ (CatchPost n a er w) { tmps := #[.pointer (some ⟨n, 0, none⟩), .pointer (some ⟨n + 1, 0, none⟩), .pointer (some ⟨n + 2, 0, none⟩), .iface 79 (.agg #[.int .i64 a, .int .i64 er]), undef, undef, .iface 79 (.agg #[.int .i64 a, .int .i64 er]), undef, undef, undef, undef, undef, undef, undef, undef, undef, undef, undef, undef, undef, undef], defers := [] } w
  go_wp2
  go_region
  all_goals
   exact ⟨rfl, rfl, (res3_set H.out _ _ _).below (fun k hk => Below.heap_alloc _ _ _ (by simp [World.setCell]; omega)), ((((Below.refl n w).setCell (p := ⟨n, 0, none⟩) (Nat.le_refl _) _).setCell (p := ⟨n + 1, 0, none⟩) (Nat.le_succ _) _).setCell (p := ⟨n + 2, 0, none⟩) (by show n ≤ n + 2; omega) _).alloc (by simp [World.setCell]; omega) _ |>.drew⟩
theorem catch_idle (p0 p1 p2 : Addr) (w : World) :
  CallsD Tryz.prog 54 #[.pointer (some p0), .pointer (some p1), .pointer (some p2)] .returning w fun e u' w' => e = .returned (.tuple #[]) ∧ u' = .returning ∧ w' = w := by
 refine callsD_of_wpS Tryz.func54 rfl fun c₀ cs hu => ?_
 apply wpS_seq
 apply wpS_region
 simp [wpOpsS, go_sem, recoverD, hu, Tryz.ntmps54, Exit.thenS]
 refine wpS_of_wp (Code.wp_mono (Q := fun e a' w' => e = .normal ∧ a'.defers = [] ∧ w' = w) ?_ ?_)
 ·
  rintro e a' w' ⟨rfl, hd, rfl⟩
  refine ⟨hd, .returning, ?_, .tuple #[], ?_, rfl, rfl, rfl⟩
  ·
   cases c₀
   simp_all
  ·
   simp [results, Tryz.results54, go_sem]
 ·
  change Code.wp Tryz.prog _ _ { tmps := #[.pointer (some p0), .pointer (some p1), .pointer (some p2), .nilIface, undef, undef, .nilIface, undef, undef, undef, undef, undef, undef, undef, undef, undef, undef, undef, undef, undef, undef], defers := [] } w
  go_wp2
def tokR (s : ByteArray) : List S44 × Int × Int :=
 if 1048576 < s.size then ([], 0, 3)
 else if (ckL s.data.toList).2 ≠ 0 then ([], ((ckL s.data.toList).1 : Int), (ckL s.data.toList).2)
 else match readT s with
  | .ok xs => (xs, (s.size : Int), 0)
  | .error (a, er) => ([], (a : Int), er)
def token_Tokens.f (a0 : ByteArray) : Option (List S44 × Int × Int) := if a0.size ≤ 140737488355328 then some (tokR a0) else none
def TokPost (w : World) (r : List S44 × Int × Int) (e : Ending) (w' : World) : Prop :=
 ∃ v0_ : Value, e = .returned (.tuple #[v0_, .int .i64 r.2.1, .int .i64 r.2.2]) ∧ Kd.S k44 44 w' w.heap.size (fun _ => True) v0_ r.1 ∧ Below w.heap.size w w'
theorem results22 {n : Nat} {v0 v1 v2 : Value} {w : World} (h : Res3 n v0 v1 v2 w) (tmps : Array Value) (h2 : tmps.getD 2 undef = .pointer (some ⟨n, 0, none⟩)) (h3 : tmps.getD 3 undef = .pointer (some ⟨n + 1, 0, none⟩)) (h4 : tmps.getD 4 undef = .pointer (some ⟨n + 2, 0, none⟩)) :
  (results Tryz.f22 tmps).run Tryz.prog w = .ok (.tuple #[v0, v1, v2]) w := by
 have k0 := crow 0 v0 h.1
 have k1 := crow 0 v1 h.2.1
 have k2 := crow 0 v2 h.2.2
 rw [Array.getD_eq_getD_getElem?] at h2 h3 h4
 simp [results, Tryz.results22, go_sem, h2, h3, h4, k0, k1, k2]
theorem res3_alloc (w : World) (v0 v1 v2 : Value) : Res3 w.heap.size v0 v1 v2 (((w.alloc (.cells #[v0] 34)).alloc (.cells #[v1] 3)).alloc (.cells #[v2] 28)) := by
 refine ⟨?_, ?_, ?_⟩
 ·
  rw [Below.heap_alloc _ _ _ (by simp; omega), Below.heap_alloc _ _ _ (by simp)]
  exact cells_alloc _ _ _
 ·
  rw [Below.heap_alloc _ _ _ (by simp)]
  have := cells_alloc (w.alloc (.cells #[v0] 34)) #[v1] 3
  simpa using this
 ·
  have := cells_alloc ((w.alloc (.cells #[v0] 34)).alloc (.cells #[v1] 3)) #[v2] 28
  simpa using this
theorem below3 (w : World) (v0 v1 v2 : Value) : Below w.heap.size w (((w.alloc (.cells #[v0] 34)).alloc (.cells #[v1] 3)).alloc (.cells #[v2] 28)) := below_alloc (below_alloc (below_alloc (Below.refl _ _) _) _) _
theorem tokens_any (s : ByteArray) (w : World) (hG : Glob w) (hs : s.size ≤ 140737488355328) : Calls Tryz.prog 22 #[.string s] w (TokPost w (tokR s)) := by
 have hmf : ∀ (fn : Fn) (first cap : Array Value) (w : World), (Instr.makeFunc fn first cap).run Tryz.prog w = .ok (.func fn first cap) w := fun _ _ _ _ => rfl
 by_cases hbig : 1048576 < s.size
 ·
  have hr : tokR s = ([], 0, 3) := by unfold tokR; rw [if_pos hbig]
  rw [hr]
  clear hr
  go_enter_defers Tryz.func22, Tryz.ntmps22
  go_wp2_with fail
  exact ⟨_, results22 (res3_alloc w _ _ _) _ rfl rfl rfl, _, rfl, Kd.S_nil _ _ _ _ _, below3 w _ _ _⟩
 ·
  have hf := check_f s hs
  have hW := res3_alloc w (.slice none 0 0) (.int .i64 0) (.int .i64 0)
  have hB0 := below3 w (.slice none 0 0) (.int .i64 0) (.int .i64 0)
  have hc := text_Check.calls s _ _ _ hf (hG.below hB0)
  have hnb : decide ((1048576 : Int) < s.size) = false := by simp; omega
  by_cases he : (ckL s.data.toList).2 = 0
  ·
   rw [he] at hc
   have hr : tokR s = match readT s with | .ok xs => (xs, (s.size : Int), 0) | .error (a, er) => ([], (a : Int), er) := by unfold tokR; rw [if_neg hbig, if_neg (by rw [he]; simp)]
   rw [hr]
   clear hr
   obtain ⟨X, hX⟩ : ∃ X, readT s = X := ⟨_, rfl⟩
   rw [hX]
   cases X with
   | error x =>
    obtain ⟨a, er⟩ := x
    have he2 : ((0 : Int) != 0) = false := rfl
    go_enter_defers Tryz.func22, Tryz.ntmps22
    go_wp2_with fail
    refine hc.mono ?_
    rintro e w1 ⟨rfl, hb1⟩
    have hB1 := hB0.trans (hb1.mono hB0.size)
    have hsz1 : w.heap.size + 3 ≤ w1.heap.size := by have := hb1.size; simpa using this
    have hW1 : Res3 w.heap.size (.slice none 0 0) (.int .i64 0) (.int .i64 0) w1 := hW.below (fun k hk => hb1.block k (by simp; omega))
    have hRd : Rd w1.heap.size s 0 (.slice none 0 0) (w1.alloc (.cells #[.string s, .int .i64 0, .slice none 0 0] 83)) := cells_alloc _ _ _
    have hB2 : Below w.heap.size w (w1.alloc (.cells #[.string s, .int .i64 0, .slice none 0 0] 83)) := below_alloc hB1 _
    have hGl : Gl w1.heap.size (w1.alloc (.cells #[.string s, .int .i64 0, .slice none 0 0] 83)) := ⟨w, hG, by omega, hB2⟩
    have hW2 : Res3 w.heap.size (.slice none 0 0) (.int .i64 0) (.int .i64 0) (w1.alloc (.cells #[.string s, .int .i64 0, .slice none 0 0] 83)) := hW1.below (fun k hk => Below.heap_alloc _ _ _ (by omega))
    have hRead := read_any w1.heap.size s _ hRd hGl (by omega)
    have HW2 := Lib.hid hW2
    have HRead := Lib.hid hRead
    clear hW hW1 hW2 hRd hRead hc hf
    go_wp2_with fail
    refine (HRead.out).mono ?_
    rintro e w3 hr3
    rw [hX] at hr3
    obtain ⟨he3, hb3⟩ := hr3
    obtain rfl : e = _ := he3
    go_wp2_with fail
    refine leaves_cons (f := 54) (args := #[.pointer (some ⟨w.heap.size, 0, none⟩), .pointer (some ⟨w.heap.size + 1, 0, none⟩), .pointer (some ⟨w.heap.size + 2, 0, none⟩)]) (by simp) (by simp [go_sem]) ?_
    refine (catch_panicking w.heap.size _ _ _ a er w3 (HW2.out.below (fun k hk => hb3.block k (by omega)))).mono ?_
    rintro e u' w4 ⟨rfl, rfl, h1, h2⟩
    exact ⟨_, results22 h1 _ rfl rfl rfl, _, rfl, Kd.S_nil _ _ _ _ _, (hB2.trans (hb3.mono (by omega))).trans h2⟩
   | ok xs =>
    have he2 : ((0 : Int) != 0) = false := rfl
    go_enter_defers Tryz.func22, Tryz.ntmps22
    go_wp2_with fail
    refine hc.mono ?_
    rintro e w1 ⟨rfl, hb1⟩
    have hB1 := hB0.trans (hb1.mono hB0.size)
    have hsz1 : w.heap.size + 3 ≤ w1.heap.size := by have := hb1.size; simpa using this
    have hW1 : Res3 w.heap.size (.slice none 0 0) (.int .i64 0) (.int .i64 0) w1 := hW.below (fun k hk => hb1.block k (by simp; omega))
    have hRd : Rd w1.heap.size s 0 (.slice none 0 0) (w1.alloc (.cells #[.string s, .int .i64 0, .slice none 0 0] 83)) := cells_alloc _ _ _
    have hB2 : Below w.heap.size w (w1.alloc (.cells #[.string s, .int .i64 0, .slice none 0 0] 83)) := below_alloc hB1 _
    have hGl : Gl w1.heap.size (w1.alloc (.cells #[.string s, .int .i64 0, .slice none 0 0] 83)) := ⟨w, hG, by omega, hB2⟩
    have hW2 : Res3 w.heap.size (.slice none 0 0) (.int .i64 0) (.int .i64 0) (w1.alloc (.cells #[.string s, .int .i64 0, .slice none 0 0] 83)) := hW1.below (fun k hk => Below.heap_alloc _ _ _ (by omega))
    have hRead := read_any w1.heap.size s _ hRd hGl (by omega)
    have HW2 := Lib.hid hW2
    have HRead := Lib.hid hRead
    clear hW hW1 hW2 hRd hRead hc hf
    go_wp2_with fail
    refine (HRead.out).mono ?_
    rintro e w3 hr3
    rw [hX] at hr3
    obtain ⟨rfl, q, ov, hR3, hO3, hb3⟩ := hr3
    obtain ⟨A, cap, rfl⟩ := Kd.S_slice hO3
    have hW3 : Res3 w.heap.size (.slice none 0 0) (.int .i64 0) (.int .i64 0) w3 := HW2.out.below (fun k hk => hb3.block k (by omega))
    have c2 := hR3.at_ 2
    simp at c2
    have k0 := crow 0 (Value.slice none 0 0) hW3.1
    have k1 := crow 0 (Value.int .i64 0) hW3.2.1
    have k2 := crow 0 (Value.int .i64 0) hW3.2.2
    have f0 := frozen_of_row _ w.heap.size 0 _ _ hW3.1
    have f1 := frozen_of_row _ (w.heap.size + 1) 0 _ _ hW3.2.1
    have f2 := frozen_of_row _ (w.heap.size + 2) 0 _ _ hW3.2.2
    have HW3 := Lib.hid hW3
    have HO3 := Lib.hid hO3
    clear hW3 hO3 HRead
    go_wp2_with fail
    refine leaves_cons (f := 54) (args := #[.pointer (some ⟨w.heap.size, 0, none⟩), .pointer (some ⟨w.heap.size + 1, 0, none⟩), .pointer (some ⟨w.heap.size + 2, 0, none⟩)]) (by simp) (by simp [go_sem]) ?_
    refine (catch_idle _ _ _ _).mono ?_
    rintro e u' w4 ⟨rfl, rfl, rfl⟩
    refine ⟨_, results22 (res3_set HW3.out _ _ _) _ rfl rfl rfl, _, rfl, ?_, ((((hB2.trans (hb3.mono (by omega))).setCell (p := ⟨w.heap.size, 0, none⟩) (Nat.le_refl _) _).setCell (p := ⟨w.heap.size + 1, 0, none⟩) (Nat.le_succ _) _).setCell (p := ⟨w.heap.size + 2, 0, none⟩) (by show w.heap.size ≤ w.heap.size + 2; omega) _)⟩
    have hS := Kd.S_lower HO3.out (show w.heap.size ≤ w1.heap.size + 1 by omega)
    exact Kd.S_mono (Kd.S_far (p := ⟨w.heap.size + 2, 0, none⟩) (Kd.S_far (p := ⟨w.heap.size + 1, 0, none⟩) (Kd.S_far (p := ⟨w.heap.size, 0, none⟩) hS (fun k hk => by show k ≠ w.heap.size; omega) _) (fun k hk => by show k ≠ w.heap.size + 1; omega) _) (fun k hk => by show k ≠ w.heap.size + 2; omega) _) (fun _ _ => trivial)
  ·
   have hr : tokR s = ([], ((ckL s.data.toList).1 : Int), (ckL s.data.toList).2) := by unfold tokR; rw [if_neg hbig, if_pos he]
   rw [hr]
   clear hr hf
   generalize (ckL s.data.toList).1 = at_ at *
   generalize (ckL s.data.toList).2 = er at *
   have he2 : (er != 0) = true := by simpa using he
   clear he
   go_enter_defers Tryz.func22, Tryz.ntmps22
   go_wp2_with fail
   refine hc.mono ?_
   rintro e w1 ⟨rfl, hb1⟩
   have hW1 : Res3 w.heap.size (.slice none 0 0) (.int .i64 0) (.int .i64 0) w1 := hW.below (fun k hk => hb1.block k (by simp; omega))
   have k0 := crow 0 (Value.slice none 0 0) hW1.1
   have k1 := crow 0 (Value.int .i64 0) hW1.2.1
   have k2 := crow 0 (Value.int .i64 0) hW1.2.2
   have f0 := frozen_of_row _ w.heap.size 0 _ _ hW1.1
   have f1 := frozen_of_row _ (w.heap.size + 1) 0 _ _ hW1.2.1
   have f2 := frozen_of_row _ (w.heap.size + 2) 0 _ _ hW1.2.2
   have HW1 := Lib.hid hW1
   clear hW1 hW
   go_wp2_with fail
   exact ⟨_, results22 (res3_set HW1.out _ _ _) _ rfl rfl rfl, _, rfl, Kd.S_nil _ _ _ _ _, (((((hB0.trans (hb1.mono hB0.size)).setCell (p := ⟨w.heap.size, 0, none⟩) (Nat.le_refl _) _).setCell (p := ⟨w.heap.size + 1, 0, none⟩) (Nat.le_succ _) _).setCell (p := ⟨w.heap.size + 2, 0, none⟩) (by show w.heap.size ≤ w.heap.size + 2; omega) _))⟩
theorem token_Tokens.calls (a0 : ByteArray) (r1 : List S44) (r2 r3 : Int) (w : World) (h : token_Tokens.f a0 = some (r1, r2, r3)) (hG : Glob w) :
  Calls Tryz.prog 22 #[.string a0] w fun e w' => ∃ v0_ : Value, e = .returned (.tuple #[v0_, .int .i64 r2, .int .i64 r3]) ∧ Kd.S k44 44 w' w.heap.size (fun _ => True) v0_ r1 ∧ Below w.heap.size w w' := by
 unfold token_Tokens.f at h
 by_cases hs : a0.size ≤ 140737488355328
 ·
  rw [if_pos hs] at h
  have hr := Option.some.inj h
  have := tokens_any a0 w hG hs
  rw [hr] at this
  exact this
 ·
  rw [if_neg hs] at h
  cases h
end Go.Proofs.YtknfpggiigncpaaGreatDoor.C
end
