/- Parts of the proof. -/
import Derived.Test.YtknfpggiigncpaaGreatDoorCkLaw
import Derived.Test.YtknfpggiigncpaaGreatDoorGlob
import Derived.Test.YtknfpggiigncpaaGreatDoorShelf
import Derived.WalkKit
import Derived.Lib.Hide
import Derived.Test.YtknfpggiigncpaaGreatDoorProg
import Derived.Below
import Derived.Deep.Draws
import Derived.Deep.AppendLies
import Derived.Maps.AppendAt
import Derived.OwnWalk
import Derived.Laws.BytesArg
import Derived.Laws.MakeOwn
import Derived.Laws.OwnMore
import Derived.Deep.OwnRows
import Derived.Tactics
import Derived.Lib.ConvBytes
import Derived.Laws.Slices
import Derived.KernelRfl
import Derived.RowKit3
import Derived.Deep.LoopGhost
import Derived.Deep.QuietTactic
import Derived.BigQuiet
import Derived.WideLaws
import Derived.Deep.DeepCutAuto
import Derived.Deep.CutBlock
import Derived.Deep.RegionHeld3
import Derived.Laws.Rows
import Derived.Lib.AppendStr
import Derived.ArgAppend
import Derived.Laws.IdiomCopy
import Derived.OrdersHeld
import Derived.Laws.BitsLemmas
import Derived.RowKit
import Derived.Test.YtknfpggiigncpaaGreatDoorWWords
import Derived.Test.YtknfpggiigncpaaGreatDoorWLast
import Derived.Test.YtknfpggiigncpaaGreatDoorWTab
import Derived.Test.YtknfpggiigncpaaGreatDoorWMore
import Derived.Laws.StructEq
set_option maxHeartbeats 4000000
set_option maxRecDepth 100000
set_option linter.unusedVariables false
set_option linter.unusedSimpArgs false
section
namespace Go.Proofs.YtknfpggiigncpaaGreatDoor.C
open Go.RowKit P A YtknfpggiigncpaaGreatDoorW.PrintWords YtknfpggiigncpaaGreatDoorW.PrintLast YtknfpggiigncpaaGreatDoorW.PrintMore
def tokR (s : ByteArray) : List S44 × Int × Int :=
 if 1048576 < s.size then ([], 0, 3)
 else if (ckL s.data.toList).2 ≠ 0 then ([], ((ckL s.data.toList).1 : Int), (ckL s.data.toList).2)
 else match readT s with
  | .ok xs => (xs, (s.size : Int), 0)
  | .error (a, er) => ([], (a : Int), er)
def token_Tokens.f (a0 : ByteArray) : Option (List S44 × Int × Int) := if a0.size ≤ 140737488355328 then some (tokR a0) else none
def TokPost (w : World) (r : List S44 × Int × Int) (e : Ending) (w' : World) : Prop :=
 ∃ v0_ : Value, e = .returned (.tuple #[v0_, .int .i64 r.2.1, .int .i64 r.2.2]) ∧ Kd.S k44 44 w' w.heap.size (fun _ => True) v0_ r.1 ∧ Below w.heap.size w w'
theorem results22 {n : Nat} {v0 v1 v2 : Value} {w : World} (h : Res3 n v0 v1 v2 w) (tmps : Array Value) (h2 : tmps.getD 2 undef = .pointer (some ⟨n, 0, none⟩)) (h3 : tmps.getD 3 undef = .pointer (some ⟨n + 1, 0, none⟩)) (h4 : tmps.getD 4 undef = .pointer (some ⟨n + 2, 0, none⟩)) :
  (results Tryz.f22 tmps).run Tryz.prog w = .ok (.tuple #[v0, v1, v2]) w := by
 have k0 := crow 0 v0 h.1
 have k1 := crow 0 v1 h.2.1
 have k2 := crow 0 v2 h.2.2
 rw [Array.getD_eq_getD_getElem?] at h2 h3 h4
 simp [results, Tryz.results22, go_sem, h2, h3, h4, k0, k1, k2]
theorem res3_alloc (w : World) (v0 v1 v2 : Value) : Res3 w.heap.size v0 v1 v2 (((w.alloc (.cells #[v0] 34)).alloc (.cells #[v1] 3)).alloc (.cells #[v2] 28)) := by
 refine ⟨?_, ?_, ?_⟩
 ·
  rw [Below.heap_alloc _ _ _ (by simp; omega), Below.heap_alloc _ _ _ (by simp)]
  exact cells_alloc _ _ _
 ·
  rw [Below.heap_alloc _ _ _ (by simp)]
  have := cells_alloc (w.alloc (.cells #[v0] 34)) #[v1] 3
  simpa using this
 ·
  have := cells_alloc ((w.alloc (.cells #[v0] 34)).alloc (.cells #[v1] 3)) #[v2] 28
  simpa using this
theorem below3 (w : World) (v0 v1 v2 : Value) : Below w.heap.size w (((w.alloc (.cells #[v0] 34)).alloc (.cells #[v1] 3)).alloc (.cells #[v2] 28)) := below_alloc (below_alloc (below_alloc (Below.refl _ _) _) _) _
theorem tokens_any (s : ByteArray) (w : World) (hG : Glob w) (hs : s.size ≤ 140737488355328) : Calls Tryz.prog 22 #[.string s] w (TokPost w (tokR s)) := by
 have hmf : ∀ (fn : Fn) (first cap : Array Value) (w : World), (Instr.makeFunc fn first cap).run Tryz.prog w = .ok (.func fn first cap) w := fun _ _ _ _ => rfl
 by_cases hbig : 1048576 < s.size
 ·
  have hr : tokR s = ([], 0, 3) := by unfold tokR; rw [if_pos hbig]
  rw [hr]
  clear hr
  go_enter_defers Tryz.func22, Tryz.ntmps22
  go_wp2_with fail
  exact ⟨_, results22 (res3_alloc w _ _ _) _ rfl rfl rfl, _, rfl, Kd.S_nil _ _ _ _ _, below3 w _ _ _⟩
 ·
  have hf := check_f s hs
  have hW := res3_alloc w (.slice none 0 0) (.int .i64 0) (.int .i64 0)
  have hB0 := below3 w (.slice none 0 0) (.int .i64 0) (.int .i64 0)
  have hc := text_Check.calls s _ _ _ hf (hG.below hB0)
  have hnb : decide ((1048576 : Int) < s.size) = false := by simp; omega
  by_cases he : (ckL s.data.toList).2 = 0
  ·
   rw [he] at hc
   have hr : tokR s = match readT s with | .ok xs => (xs, (s.size : Int), 0) | .error (a, er) => ([], (a : Int), er) := by unfold tokR; rw [if_neg hbig, if_neg (by rw [he]; simp)]
   rw [hr]
   clear hr
   obtain ⟨X, hX⟩ : ∃ X, readT s = X := ⟨_, rfl⟩
   rw [hX]
   cases X with
   | error x =>
    obtain ⟨a, er⟩ := x
    have he2 : ((0 : Int) != 0) = false := rfl
    go_enter_defers Tryz.func22, Tryz.ntmps22
    go_wp2_with fail
    refine hc.mono ?_
    rintro e w1 ⟨rfl, hb1⟩
    have hB1 := hB0.trans (hb1.mono hB0.size)
    have hsz1 : w.heap.size + 3 ≤ w1.heap.size := by have := hb1.size; simpa using this
    have hW1 : Res3 w.heap.size (.slice none 0 0) (.int .i64 0) (.int .i64 0) w1 := hW.below (fun k hk => hb1.block k (by simp; omega))
    have hRd : Rd w1.heap.size s 0 (.slice none 0 0) (w1.alloc (.cells #[.string s, .int .i64 0, .slice none 0 0] 83)) := cells_alloc _ _ _
    have hB2 : Below w.heap.size w (w1.alloc (.cells #[.string s, .int .i64 0, .slice none 0 0] 83)) := below_alloc hB1 _
    have hGl : Gl w1.heap.size (w1.alloc (.cells #[.string s, .int .i64 0, .slice none 0 0] 83)) := ⟨w, hG, by omega, hB2⟩
    have hW2 : Res3 w.heap.size (.slice none 0 0) (.int .i64 0) (.int .i64 0) (w1.alloc (.cells #[.string s, .int .i64 0, .slice none 0 0] 83)) := hW1.below (fun k hk => Below.heap_alloc _ _ _ (by omega))
    have hRead := read_any w1.heap.size s _ hRd hGl (by omega)
    have HW2 := Lib.hid hW2
    have HRead := Lib.hid hRead
    clear hW hW1 hW2 hRd hRead hc hf
    go_wp2_with fail
    refine (HRead.out).mono ?_
    rintro e w3 hr3
    rw [hX] at hr3
    obtain ⟨he3, hb3⟩ := hr3
    obtain rfl : e = _ := he3
    go_wp2_with fail
    refine leaves_cons (f := 54) (args := #[.pointer (some ⟨w.heap.size, 0, none⟩), .pointer (some ⟨w.heap.size + 1, 0, none⟩), .pointer (some ⟨w.heap.size + 2, 0, none⟩)]) (by simp) (by simp [go_sem]) ?_
    refine (catch_panicking w.heap.size _ _ _ a er w3 (HW2.out.below (fun k hk => hb3.block k (by omega)))).mono ?_
    rintro e u' w4 ⟨rfl, rfl, h1, h2⟩
    exact ⟨_, results22 h1 _ rfl rfl rfl, _, rfl, Kd.S_nil _ _ _ _ _, (hB2.trans (hb3.mono (by omega))).trans h2⟩
   | ok xs =>
    have he2 : ((0 : Int) != 0) = false := rfl
    go_enter_defers Tryz.func22, Tryz.ntmps22
    go_wp2_with fail
    refine hc.mono ?_
    rintro e w1 ⟨rfl, hb1⟩
    have hB1 := hB0.trans (hb1.mono hB0.size)
    have hsz1 : w.heap.size + 3 ≤ w1.heap.size := by have := hb1.size; simpa using this
    have hW1 : Res3 w.heap.size (.slice none 0 0) (.int .i64 0) (.int .i64 0) w1 := hW.below (fun k hk => hb1.block k (by simp; omega))
    have hRd : Rd w1.heap.size s 0 (.slice none 0 0) (w1.alloc (.cells #[.string s, .int .i64 0, .slice none 0 0] 83)) := cells_alloc _ _ _
    have hB2 : Below w.heap.size w (w1.alloc (.cells #[.string s, .int .i64 0, .slice none 0 0] 83)) := below_alloc hB1 _
    have hGl : Gl w1.heap.size (w1.alloc (.cells #[.string s, .int .i64 0, .slice none 0 0] 83)) := ⟨w, hG, by omega, hB2⟩
    have hW2 : Res3 w.heap.size (.slice none 0 0) (.int .i64 0) (.int .i64 0) (w1.alloc (.cells #[.string s, .int .i64 0, .slice none 0 0] 83)) := hW1.below (fun k hk => Below.heap_alloc _ _ _ (by omega))
    have hRead := read_any w1.heap.size s _ hRd hGl (by omega)
    have HW2 := Lib.hid hW2
    have HRead := Lib.hid hRead
    clear hW hW1 hW2 hRd hRead hc hf
    go_wp2_with fail
    refine (HRead.out).mono ?_
    rintro e w3 hr3
    rw [hX] at hr3
    obtain ⟨rfl, q, ov, hR3, hO3, hb3⟩ := hr3
    obtain ⟨A, cap, rfl⟩ := Kd.S_slice hO3
    have hW3 : Res3 w.heap.size (.slice none 0 0) (.int .i64 0) (.int .i64 0) w3 := HW2.out.below (fun k hk => hb3.block k (by omega))
    have c2 := hR3.at_ 2
    simp at c2
    have k0 := crow 0 (Value.slice none 0 0) hW3.1
    have k1 := crow 0 (Value.int .i64 0) hW3.2.1
    have k2 := crow 0 (Value.int .i64 0) hW3.2.2
    have f0 := frozen_of_row _ w.heap.size 0 _ _ hW3.1
    have f1 := frozen_of_row _ (w.heap.size + 1) 0 _ _ hW3.2.1
    have f2 := frozen_of_row _ (w.heap.size + 2) 0 _ _ hW3.2.2
    have HW3 := Lib.hid hW3
    have HO3 := Lib.hid hO3
    clear hW3 hO3 HRead
    go_wp2_with fail
    refine leaves_cons (f := 54) (args := #[.pointer (some ⟨w.heap.size, 0, none⟩), .pointer (some ⟨w.heap.size + 1, 0, none⟩), .pointer (some ⟨w.heap.size + 2, 0, none⟩)]) (by simp) (by simp [go_sem]) ?_
    refine (catch_idle _ _ _ _).mono ?_
    rintro e u' w4 ⟨rfl, rfl, rfl⟩
    refine ⟨_, results22 (res3_set HW3.out _ _ _) _ rfl rfl rfl, _, rfl, ?_, ((((hB2.trans (hb3.mono (by omega))).setCell (p := ⟨w.heap.size, 0, none⟩) (Nat.le_refl _) _).setCell (p := ⟨w.heap.size + 1, 0, none⟩) (Nat.le_succ _) _).setCell (p := ⟨w.heap.size + 2, 0, none⟩) (by show w.heap.size ≤ w.heap.size + 2; omega) _)⟩
    have hS := Kd.S_lower HO3.out (show w.heap.size ≤ w1.heap.size + 1 by omega)
    exact Kd.S_mono (Kd.S_far (p := ⟨w.heap.size + 2, 0, none⟩) (Kd.S_far (p := ⟨w.heap.size + 1, 0, none⟩) (Kd.S_far (p := ⟨w.heap.size, 0, none⟩) hS (fun k hk => by show k ≠ w.heap.size; omega) _) (fun k hk => by show k ≠ w.heap.size + 1; omega) _) (fun k hk => by show k ≠ w.heap.size + 2; omega) _) (fun _ _ => trivial)
  ·
   have hr : tokR s = ([], ((ckL s.data.toList).1 : Int), (ckL s.data.toList).2) := by unfold tokR; rw [if_neg hbig, if_pos he]
   rw [hr]
   clear hr hf
   generalize (ckL s.data.toList).1 = at_ at *
   generalize (ckL s.data.toList).2 = er at *
   have he2 : (er != 0) = true := by simpa using he
   clear he
   go_enter_defers Tryz.func22, Tryz.ntmps22
   go_wp2_with fail
   refine hc.mono ?_
   rintro e w1 ⟨rfl, hb1⟩
   have hW1 : Res3 w.heap.size (.slice none 0 0) (.int .i64 0) (.int .i64 0) w1 := hW.below (fun k hk => hb1.block k (by simp; omega))
   have k0 := crow 0 (Value.slice none 0 0) hW1.1
   have k1 := crow 0 (Value.int .i64 0) hW1.2.1
   have k2 := crow 0 (Value.int .i64 0) hW1.2.2
   have f0 := frozen_of_row _ w.heap.size 0 _ _ hW1.1
   have f1 := frozen_of_row _ (w.heap.size + 1) 0 _ _ hW1.2.1
   have f2 := frozen_of_row _ (w.heap.size + 2) 0 _ _ hW1.2.2
   have HW1 := Lib.hid hW1
   clear hW1 hW
   go_wp2_with fail
   exact ⟨_, results22 (res3_set HW1.out _ _ _) _ rfl rfl rfl, _, rfl, Kd.S_nil _ _ _ _ _, (((((hB0.trans (hb1.mono hB0.size)).setCell (p := ⟨w.heap.size, 0, none⟩) (Nat.le_refl _) _).setCell (p := ⟨w.heap.size + 1, 0, none⟩) (Nat.le_succ _) _).setCell (p := ⟨w.heap.size + 2, 0, none⟩) (by show w.heap.size ≤ w.heap.size + 2; omega) _))⟩
theorem token_Tokens.calls (a0 : ByteArray) (r1 : List S44) (r2 r3 : Int) (w : World) (h : token_Tokens.f a0 = some (r1, r2, r3)) (hG : Glob w) :
  Calls Tryz.prog 22 #[.string a0] w fun e w' => ∃ v0_ : Value, e = .returned (.tuple #[v0_, .int .i64 r2, .int .i64 r3]) ∧ Kd.S k44 44 w' w.heap.size (fun _ => True) v0_ r1 ∧ Below w.heap.size w w' := by
 unfold token_Tokens.f at h
 by_cases hs : a0.size ≤ 140737488355328
 ·
  rw [if_pos hs] at h
  have hr := Option.some.inj h
  have := tokens_any a0 w hG hs
  rw [hr] at this
  exact this
 ·
  rw [if_neg hs] at h
  cases h
end Go.Proofs.YtknfpggiigncpaaGreatDoor.C
end
section
namespace Go.Proofs.YtknfpggiigncpaaGreatDoor.P
open Go.RowKit
theorem dropWhile_nil {α : Type} (p : α → Bool) (l : List α) : l.dropWhile p = [] ↔ l.all p = true := by
 induction l with
 | nil => simp
 | cons a l ih =>
  by_cases h : p a = true
  ·
   simp [h, ih]
  ·
   simp [h]
theorem trimS_nil (l cs : List UInt8) : Lib.trimS l cs = [] ↔ l.all (cs.contains ·) = true := by
 unfold Lib.trimS Lib.trimLeftS Lib.trimRightS
 rw [dropWhile_nil]
 constructor
 ·
  intro h
  rw [List.all_eq_true] at h ⊢
  intro x hx
  have key : ∀ m : List UInt8, (∀ y ∈ m.dropWhile (cs.contains ·), cs.contains y = true) → ∀ y ∈ m, cs.contains y = true := by
   intro m
   induction m with
   | nil => intro _ y hy; cases hy
   | cons a m ih =>
    intro h y hy
    by_cases ha : cs.contains a = true
    ·
     rw [List.dropWhile_cons_of_pos ha] at h
     rcases List.mem_cons.1 hy with rfl | hy
     ·
      exact ha
     ·
      exact ih h y hy
    ·
     rw [List.dropWhile_cons_of_neg ha] at h
     exact h y hy
  exact key l.reverse (fun y hy => h y (by simpa using hy)) x (by simpa using hx)
 ·
  intro h
  rw [List.all_eq_true] at h ⊢
  intro x hx
  have : x ∈ l.reverse.dropWhile (cs.contains ·) := by simpa using hx
  exact h x (by simpa using (List.dropWhile_sublist _).subset this)
theorem blank_set (b : UInt8) : ([32, 9, 10, 13] : List UInt8).contains b = blankB b := by
 rw [Bool.eq_iff_iff]
 simp [blankB, or_assoc]
theorem text_Blank.calls (a0 : ByteArray) (r : Bool) (w : World) (h : text_Blank.f a0 = some r) (_hG : Glob w) :
  Calls Tryz.prog 33 #[.string a0] w fun e w' => e = .returned (.bool r) ∧ Below w.heap.size w w' := by
 unfold text_Blank.f at h
 by_cases hm' : a0.size ≤ 140737488355328
 case neg => rw [if_neg hm'] at h; cases h
 rw [if_pos hm'] at h
 obtain rfl := Option.some.inj h
 clear h
 have hcon := Any.strings_Trim_laid Tryz.lays160 (by kernel_rfl) a0 ⟨#[32, 9, 10, 13]⟩ w (by omega) (by decide) (ascii_of_all (by decide))
 change Calls Tryz.prog 74 _ _ _ at hcon
 have e1 : (⟨#[32, 9, 10, 13]⟩ : ByteArray).data.toList = [32, 9, 10, 13] := rfl
 rw [e1] at hcon
 clear e1
 have hx : (a0.data.toList.all blankB) = decide (Lib.trimS a0.data.toList [32, 9, 10, 13] = []) := by
  rw [Bool.eq_iff_iff, decide_eq_true_eq, trimS_nil]
  simp only [blank_set]
 rw [hx]
 clear hx
 generalize Lib.trimS a0.data.toList [32, 9, 10, 13] = x at *
 go_enter Tryz.func33, Tryz.ntmps33
 go_wp2_with fail
 refine hcon.mono ?_
 rintro e w1 ⟨rfl, hb⟩
 go_wp2_with fail
 go_ret
 refine ⟨?_, hb⟩
 cases x <;> rfl
end Go.Proofs.YtknfpggiigncpaaGreatDoor.P
end
section
namespace Go.Proofs.YtknfpggiigncpaaGreatDoor.D
open Go.RowKit P YtknfpggiigncpaaGreatDoorW.PrintLast YtknfpggiigncpaaGreatDoorW.PrintMore
open YtknfpggiigncpaaGreatDoorW.PrintWords
def splitT (l : List UInt8) : List UInt8 × List UInt8 × Bool :=
 if (Lib.cut l [58]).2.2 = true then ((Lib.cut l [58]).1, (Lib.cut l [58]).2.1, !(Lib.cut l [58]).1.isEmpty && !(Lib.cut l [58]).2.1.isEmpty && !decide (0 ≤ Lib.indexByte (Lib.cut l [58]).2.1 58)) else ([], l, true)
theorem split_any (s : ByteArray) (w : World) (hs : s.size < 4294967281) (hG : Glob w) :
  Calls Tryz.prog 145 #[.string s] w fun e w' => e = .returned (.tuple #[.string ⟨(splitT s.data.toList).1.toArray⟩, .string ⟨(splitT s.data.toList).2.1.toArray⟩, .bool (splitT s.data.toList).2.2]) ∧ Below w.heap.size w w' := by
 obtain ⟨m, hm⟩ := hG.maxLen
 have HC := Lib.hid (Tryz.strings_Cut s ⟨#[58]⟩ m w hs hm)
 have hp : (⟨#[58]⟩ : ByteArray).data.toList = [58] := rfl
 rw [hp] at HC
 obtain ⟨R, hR⟩ : ∃ R, splitT s.data.toList = R := ⟨_, rfl⟩
 unfold splitT at hR
 obtain ⟨C, hC⟩ : ∃ C, Lib.cut s.data.toList [58] = C := ⟨_, rfl⟩
 rw [hC] at HC hR
 obtain ⟨c0, c1, c2⟩ := C
 have HR := Lib.hid hR
 show Calls _ _ _ _ fun e w' => e = .returned (.tuple #[.string ⟨(splitT s.data.toList).1.toArray⟩, .string ⟨(splitT s.data.toList).2.1.toArray⟩, .bool (splitT s.data.toList).2.2]) ∧ Below w.heap.size w w'
 rw [show splitT s.data.toList = R from by unfold splitT; rw [hC]; exact hR]
 clear hR hC hm
 go_enter Tryz.func145, Tryz.ntmps145
 go_wp2_with fail
 refine HC.out.mono ?_
 rintro e w1 ⟨rfl, n, rfl⟩
 cases c2 with
 | false =>
  go_wp2_with fail
  go_ret3
  have : R = ([], s.data.toList, true) := by rw [← HR.out]; rfl
  rw [this]
  exact ⟨rfl, pw_below_drewN (Below.refl _ _) n⟩
 | true =>
  have hRv : R = (c0, c1, !c0.isEmpty && !c1.isEmpty && !decide (0 ≤ Lib.indexByte c1 58)) := by rw [← HR.out]; rfl
  by_cases h0 : c0 = []
  ·
   subst h0
   go_wp2_with fail
   go_ret3
   rw [hRv]
   exact ⟨by simp, pw_below_drewN (Below.refl _ _) n⟩
  ·
   by_cases h1 : c1 = []
   ·
    subst h1
    go_wp2_with fail
    go_ret3
    rw [hRv]
    exact ⟨by simp, pw_below_drewN (Below.refl _ _) n⟩
   ·
    go_wp2_with fail
    refine (Tryz.strings_Contains_one ⟨c1.toArray⟩ 58 _).mono ?_
    rintro e w2 ⟨rfl, rfl⟩
    go_wp2_with fail
    go_ret3
    rw [hRv]
    exact ⟨by simp, pw_below_drewN (Below.refl _ _) n⟩
end Go.Proofs.YtknfpggiigncpaaGreatDoor.D
end
section
namespace Go.Proofs.YtknfpggiigncpaaGreatDoor.E
open Go.RowKit YtknfpggiigncpaaGreatDoorW.PrintWords YtknfpggiigncpaaGreatDoorW.PrintLast YtknfpggiigncpaaGreatDoorW.PrintMore
attribute [local go_sem] max2_int min2_int max_two min_two max_three min_three max_four min_four
theorem info24 : (Tryz.prog.info? 24).map (fun i => (i.zero, i.size, i.bytes)) = some (some (.agg #[(.string ⟨#[]⟩), (.string ⟨#[]⟩), (.slice none 0 0)]), 3, 56) := by kernel_rfl
/-! #### struct type 24, nested in itself -/
structure S24 where
 f0 : ByteArray
 f1 : ByteArray
 f2 : (List S24)
def z24 : S24 := ⟨(⟨#[]⟩ : ByteArray), (⟨#[]⟩ : ByteArray), ([] : List S24)⟩
def F24 (d : Kd S24) : Kd S24 := Kd.iso (Kd.pair Kd.string (Kd.pair Kd.string (Kd.slice 24 d))) (fun x : S24 => (x.f0, x.f1, x.f2))
theorem mono24 : Kd.Mono F24 := Kd.mono_iso _ (Kd.mono_pair (Kd.mono_const _) (Kd.mono_pair (Kd.mono_const _) (Kd.mono_slice 24 Kd.mono_id)))
theorem sub24 : Kd.Sub F24 [24] := Kd.sub_iso _ (Kd.sub_pair (Kd.sub_const _ (by decide)) (Kd.sub_pair (Kd.sub_const _ (by decide)) (Kd.sub_slice 24 (by decide) Kd.sub_id)))
theorem sz24 : ∀ n, (Kd.upto F24 3 [24] n).sz = 3 := Kd.upto_sz (fun _ => rfl)
def k24 : Kd S24 := Kd.fix F24 3 [24] sz24 (Kd.upto_E sub24)
theorem k24_open {w : World} {x : S24} {cs : List Value} (h : k24.K w x cs) : ∃ A2 c2, cs = [.string x.f0, .string x.f1, .slice A2 x.f2.length c2] ∧ x.f2.length ≤ c2 ∧ k24.C w A2 x.f2.length x.f2 := by
 obtain ⟨n, h⟩ := h
 cases n with
 | zero => exact h.elim
 | succ n =>
  obtain ⟨_, _, rfl, rfl, ⟨_, _, rfl, rfl, ⟨A2, c2, rfl, l2, g2⟩⟩⟩ := h
  exact ⟨A2, c2, rfl, l2, Kd.fix_C g2⟩
theorem k24_mkM (w : World) (base : Nat) (ok : Nat → Prop) (x : S24) {v2 : Value} (g2 : k24.R 24 w base ok v2 x.f2) : k24.M w base ok x [.string x.f0, .string x.f1, v2] := by
 obtain ⟨n2, q2⟩ := Kd.fix_R_back mono24 g2
 have r2 := Kd.upto_R_le mono24 sz24 (show n2 ≤ n2 by omega) q2
 exact ⟨n2 + 1, ⟨[.string x.f0], [.string x.f1, v2], rfl, rfl, ⟨[.string x.f1], [v2], rfl, rfl, ⟨v2, rfl, r2⟩⟩⟩⟩
def rd_T24 (xs : List S24) (i : Int) : S24 := xs.getD i.toNat z24
theorem at_T24 {w : World} {A : Option Addr} {n : Nat} {xs : List S24} (h : Kd.C k24 w A n xs) (i : Int) (h0 : 0 ≤ i) (h1 : i < n) : ∃ ad A2 c2, A = some ad ∧ w.cell? (ad.add (i.toNat * 3)) = some (.string (rd_T24 xs i).f0) ∧ w.cell? ⟨(ad.add (i.toNat * 3)).block, (ad.add (i.toNat * 3)).off + 1, none⟩ = some (.string (rd_T24 xs i).f1) ∧ w.cell? ⟨(ad.add (i.toNat * 3)).block, (ad.add (i.toNat * 3)).off + 2, none⟩ = some (.slice A2 (rd_T24 xs i).f2.length c2) ∧ (rd_T24 xs i).f2.length ≤ c2 ∧ k24.C w A2 (rd_T24 xs i).f2.length (rd_T24 xs i).f2 := by
 obtain ⟨ad, c, e, _, hK, hc0⟩ := Kd.C_get h z24 i h0 h1
 have hc : ∀ j u, c[j]? = some u → w.cell? (ad.add (i.toNat * 3 + j)) = some u := hc0
 obtain ⟨A2, c2, rfl, l2, g2⟩ := k24_open hK
 exact ⟨ad, A2, c2, e, hc 0 _ rfl, by rw [← add_field _ _ 1 (by omega)]; exact hc 1 _ rfl, by rw [← add_field _ _ 2 (by omega)]; exact hc 2 _ rfl, l2, g2⟩
end Go.Proofs.YtknfpggiigncpaaGreatDoor.E
end
