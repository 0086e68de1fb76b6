/- strings.FieldsSeq over an ASCII text: the iterator, walked by hand. -/
import Derived.RangeFuncNested
import Derived.RangeFuncBound
import Derived.RangeFuncCalls
import Derived.RangeFuncLeaves
import Derived.Shelf.Abstract
import Derived.Shelf.RegionOpen
import Derived.WalkKit
import Derived.OwnWalkIn
import Derived.TacticsInMore
import Derived.LoopNIn
import Derived.LoopIn
import Derived.Lib.Hide
import Derived.Test.YtepphihcggppbaaDoorGl
import Derived.Test.YtepphihcggppbaaDoorAx0
set_option linter.unusedVariables false
set_option linter.unusedSimpArgs false
namespace Go.Proofs.YtepphihcggppbaaDoor.A
open Go.RowKit Go.Shelf Go.Proofs.YtepphihcggppbaaDoorW.PrintWords Go.Proofs.YtepphihcggppbaaDoorW.PrintLast Go.Proofs.YtepphihcggppbaaDoorW.PrintMore
attribute [local go_sem] Oper.semAt_some

theorem room_of_none {F : Fence} (hd : F.depth = none) (k : Nat) : F.room k := fun d h => by rw [hd] at h; cases h
theorem round_any {F : Fence} (hd : F.depth = none) {m m' : Nat} {P : Program} {l : Nat} {f : FuncId} {tmps : Array Value} {assign body : Code} {w : World} {R : Ending → World → Prop}
    (h : RoundIn F m P l f tmps assign body w R) : RoundIn F m' P l f tmps assign body w R := ⟨h.1, fun c cs _ => h.2 c cs (room_of_none hd _)⟩
theorem yield_any {F : Fence} (hd : F.depth = none) {m : Nat} (m' : Nat) {P : Program} {l : Nat} {args : Array Value} {W : World} {R : Ending → World → Prop} (h : YieldAt F m P l args W R) : YieldAt F m' P l args W R := by
  obtain ⟨fn, tmps, assign, body, hy, hR⟩ := h
  exact ⟨fn, tmps, assign, body, hy, round_any hd hR⟩
/-- Blocks of type 9 stay. -/
def K9 (A B : World) : Prop := ∀ (k : Nat) (c : Array Value) (fr : Nat × Nat), A.heap[k]? = some (Obj.cells c 9 fr) → B.heap[k]? = some (Obj.cells c 9 fr)
def KpS (n : Nat) (A B : World) : Prop := (Below n A B ∧ A.heap.size ≤ B.heap.size) ∧ K9 A B
theorem KpS.refl (n : Nat) (A : World) : KpS n A A := ⟨⟨Below.refl _ _, Nat.le_refl _⟩, fun _ _ _ h => h⟩
theorem KpS.trans {n : Nat} {A B C : World} (h : KpS n A B) (k : KpS n B C) : KpS n A C := ⟨⟨h.1.1.trans k.1.1, Nat.le_trans h.1.2 k.1.2⟩, fun i c fr hi => k.2 i c fr (h.2 i c fr hi)⟩
theorem KpS.put {n : Nat} {w : World} (hn : n ≤ w.heap.size) (W : World) (l : Nat) (o o' : Obj) (hl : w.heap.size ≤ l) (h : W.heap[l]? = some o) (h1 : o.isCells = false) (h2 : o.isWalk = false) : KpS n W (W.putObj l o') :=
  ⟨⟨belowK_b hn W l o o' hl h h1 h2, by have := (World.grownBy.size (grownBy_putObj' W l o')); exact this⟩, fun i c fr hi => (World.putObj_heap_other (by rintro rfl; rw [h] at hi; cases hi; cases h1)).trans hi⟩
/-- The fields of a text, from a place on. -/
def fieldsFrom (s : ByteArray) : Nat → Nat → Option Nat → List ByteArray
  | 0, _, none => []
  | 0, _, some j => [s.extract j s.size]
  | n + 1, i, none => if Lib.isSp (s.data.toList.getD i 0) then fieldsFrom s n (i + 1) none else fieldsFrom s n (i + 1) (some i)
  | n + 1, i, some j => if Lib.isSp (s.data.toList.getD i 0) then s.extract j i :: fieldsFrom s n (i + 1) none else fieldsFrom s n (i + 1) (some j)
def fieldsB (s : ByteArray) : List ByteArray := fieldsFrom s s.size 0 none
def stV : Option Nat → Value
  | none => .int .i64 (-1)
  | some j => .int .i64 (j : Int)
set_option maxRecDepth 100000 in
set_option maxHeartbeats 8000000 in
theorem fseq1_in (F : Fence) (hd : F.depth = none) (n : Nat) (h49 : F.fn 49) (hro : F.round = none) (n0 l Bt : Nat) (s : ByteArray) (hs : s.size ≤ 1000000) (hasc : ∀ c ∈ s.data.toList, c.toNat < 128) (J Jx : List ByteArray → World → Prop)
    (hY : ∀ m pre x W, J pre W → (∃ r, fieldsB s = pre ++ x :: r) → YieldAt F m Tryd.prog l #[.string x] W fun e W' => (e = .returned (.bool true) ∧ J (pre ++ [x]) W' ∧ KpS n0 W W') ∨ (e = .returned (.bool false) ∧ Jx (pre ++ [x]) W'))
    (W : World) (hbt : W.heap[Bt]? = some (.cells #[.string s] 9 (0, 0))) (hg : ∀ c : Nat, c < 256 → W.cell? ⟨0, c, none⟩ = some (.int .u8 (spT c))) (hn0 : 0 < n0) (h0 : J [] W) :
    CallsIn F n Tryd.prog 49 #[.func (.yield l) #[] #[], .pointer (some ⟨Bt, 0, none⟩)] W fun e W' => (∃ v, e = .returned v) ∧ ((∃ ys, ys = fieldsB s ∧ J ys W') ∨ (∃ pre, pre <+: fieldsB s ∧ Jx pre W')) := by
  have hdd : ∀ k : Nat, (F.depth.isSome = true → 1 ≤ k) := fun k h => by rw [hd] at h; cases h
  have HJ0 := Lib.hid h0
  have HY := Lib.hid hY
  have HBT := Lib.hid hbt
  have HG := Lib.hid hg
  have HA := Lib.hid hasc
  clear h0 hY hbt hg hasc
  refine callsIn_of_wp Tryd.func49 rfl h49 ?_ hro
  simp only [Tryd.ntmps49, List.size_toArray, List.length_cons, List.length_nil, Nat.reduceAdd, Nat.reduceSub, Array.replicate_succ, Array.replicate_zero, List.push_toArray, List.append_toArray, List.nil_append, List.cons_append]
  gi_wp2
  gi_loopw [3, 4, 5, 6, 7] (fun v3 v4 v5 v6 v7 wr => ∃ (i : Nat) (st : Option Nat) (pre : List ByteArray), v4 = .int .i64 i ∧ v3 = stV st ∧ i ≤ s.size ∧ Hid (∀ j, st = some j → j < i) ∧ Hid (fieldsB s = pre ++ fieldsFrom s (s.size - i) i st) ∧ Hid (J pre wr) ∧ Hid (KpS n0 W wr)) (fun _ v4 _ _ _ _ => s.size - (intOf v4).toNat)
  case atStart => exact ⟨0, none, [], rfl, rfl, Nat.zero_le _, (fun j h => by cases h), rfl, HJ0.out, KpS.refl _ _⟩
  case round =>
    obtain ⟨i, st, pre, rfl, rfl, hi, HST, HM, HJ, HK⟩ := hrel
    have hbr := HK.out.2 _ _ _ HBT.out
    have cb : wr.cell? ⟨Bt, 0, none⟩ = some (.string s) := blk_cell hbr 0
    by_cases hlt : i < s.size
    · have hdl : decide ((i : Int) < (s.size : Int)) = true := decide_eq_true (by omega)
      have hmem : s[i] ∈ s.data.toList := by
        have : s[i] = s.data.toList[i]'(by simpa using hlt) := rfl
        rw [this]
        exact List.getElem_mem _
      have hgd : s.data.toList.getD i 0 = s[i] := by
        rw [List.getD_eq_getElem?_getD, List.getElem?_eq_getElem (by simpa using hlt)]
        rfl
      have h128 := HA.out _ hmem
      have q1 : ¬ ((256 : Int) ≤ (s[i].toNat : Int)) := by omega
      have q2 : wrap32 (s[i].toNat : Int) = (s[i].toNat : Int) := by unfold wrap32; omega
      have q3 : decide ((128 : Int) ≤ (s[i].toNat : Int)) = false := decide_eq_false (by omega)
      have q3' : ¬ ((128 : Int) ≤ (s[i].toNat : Int)) := by omega
      have q4 : wr.cell? ⟨0, s[i].toNat, none⟩ = some (.int .u8 (spT s[i].toNat)) := (HK.out.1.1.cell (p := ⟨0, s[i].toNat, none⟩) hn0).trans (HG.out _ (by omega))
      have q5 : spT s[i].toNat = if Lib.isSp s[i] then 1 else 0 := by unfold spT; rw [UInt8.ofNat_toNat]
      have hM := HM.out
      obtain ⟨m, hm⟩ : ∃ m, s.size - i = m + 1 := ⟨s.size - i - 1, by omega⟩
      have hm1 : s.size - (i + 1) = m := by omega
      have HM1 := Lib.hid hm1
      rw [hm] at hM
      clear hmem h128
      cases hsp : Lib.isSp s[i] with
      | true =>
        rw [hsp, if_pos rfl] at q5
        rw [q5] at q4
        cases st with
        | none =>
          rw [fieldsFrom, hgd, hsp, if_pos rfl] at hM
          have HM2 := Lib.hid hM
          clear hM hgd q5
          simp only [stV]
          gi_wp2
          go_roundw
          case rel => exact ⟨i + 1, none, pre, by go_num, rfl, by omega, (fun j h => by cases h), by rw [HM1.out]; exact HM2.out, HJ.out, HK.out⟩
          case measure => show s.size - ((i : Int) + 1).toNat < s.size - ((i : Int)).toNat; omega
        | some j =>
          have hj := HST.out j rfl
          rw [fieldsFrom, hgd, hsp, if_pos rfl] at hM
          have hlen : ∃ r, fieldsB s = pre ++ s.extract j i :: r := ⟨_, hM⟩
          obtain ⟨fn, tmps, assign, body, hy, hR⟩ := HY.out (n - 1) pre (s.extract j i) wr HJ.out hlen
          have HR := Lib.hid hR
          have HM2 := Lib.hid hM
          clear hM hgd q5 hlen hR
          have z1 : decide ((0 : Int) ≤ (j : Int)) = true := decide_eq_true (by omega)
          have z2 : (j : Int) ≤ (i : Int) := by omega
          have z3 : (i : Int) ≤ (s.size : Int) := by omega
          have z4 : (0 : Int) ≤ (j : Int) := by omega
          simp only [stV]
          gi_wp2
          refine HR.out.mono ?_
          rintro e W3 (⟨rfl, hJ3, hk3⟩ | ⟨rfl, hJx3⟩)
          · gi_wp2
            go_roundw
            case rel => exact ⟨i + 1, none, pre ++ [s.extract j i], by go_num, rfl, by omega, (fun j h => by cases h), by rw [HM1.out]; exact HM2.out.trans (by simp), hJ3, HK.out.trans hk3⟩
            case measure => show s.size - ((i : Int) + 1).toNat < s.size - ((i : Int)).toNat; omega
          · gi_wp2
            refine bodyPost_ret (results_none rfl _ _ _) rfl ?_
            exact ⟨⟨_, rfl⟩, .inr ⟨pre ++ [s.extract j i], ⟨fieldsFrom s m (i + 1) none, by rw [HM2.out]; simp⟩, hJx3⟩⟩
      | false =>
        rw [hsp, if_neg (by simp)] at q5
        rw [q5] at q4
        cases st with
        | none =>
          rw [fieldsFrom, hgd, hsp, if_neg (by simp)] at hM
          have HM2 := Lib.hid hM
          clear hM hgd q5
          simp only [stV]
          gi_wp2
          go_roundw
          case rel => exact ⟨i + 1, some i, pre, by go_num, rfl, by omega, (fun j h => by cases h; omega), by rw [HM1.out]; exact HM2.out, HJ.out, HK.out⟩
          case measure => show s.size - ((i : Int) + 1).toNat < s.size - ((i : Int)).toNat; omega
        | some j =>
          have hj := HST.out j rfl
          rw [fieldsFrom, hgd, hsp, if_neg (by simp)] at hM
          have HM2 := Lib.hid hM
          clear hM hgd q5
          have z1 : decide ((j : Int) < 0) = false := decide_eq_false (by omega)
          simp only [stV]
          gi_wp2
          go_roundw
          case rel => exact ⟨i + 1, some j, pre, by go_num, rfl, by omega, (fun k h => by cases h; omega), by rw [HM1.out]; exact HM2.out, HJ.out, HK.out⟩
          case measure => show s.size - ((i : Int) + 1).toNat < s.size - ((i : Int)).toNat; omega
    · have hie : i = s.size := by omega
      subst hie
      have hdl : decide ((s.size : Int) < (s.size : Int)) = false := decide_eq_false (by omega)
      have hM := HM.out
      rw [Nat.sub_self] at hM
      cases st with
      | none =>
        rw [fieldsFrom, List.append_nil] at hM
        have HM2 := Lib.hid hM
        clear hM
        simp only [stV]
        gi_wp2
        go_end0
        exact ⟨⟨_, rfl⟩, .inl ⟨pre, HM2.out.symm, HJ.out⟩⟩
      | some j =>
        have hj := HST.out j rfl
        rw [fieldsFrom] at hM
        have hlen : ∃ r, fieldsB s = pre ++ s.extract j s.size :: r := ⟨_, hM⟩
        obtain ⟨fn, tmps, assign, body, hy, hR⟩ := HY.out (n - 1) pre (s.extract j s.size) wr HJ.out hlen
        have HR := Lib.hid hR
        have HM2 := Lib.hid hM
        clear hM hlen hR
        have z1 : decide ((0 : Int) ≤ (j : Int)) = true := decide_eq_true (by omega)
        simp only [stV]
        gi_wp2
        refine HR.out.mono ?_
        rintro e W3 (⟨rfl, hJ3, hk3⟩ | ⟨rfl, hJx3⟩)
        · gi_wp2
          go_end0
          exact ⟨⟨_, rfl⟩, .inl ⟨pre ++ [s.extract j s.size], HM2.out.symm, hJ3⟩⟩
        · gi_wp2
          go_end0
          exact ⟨⟨_, rfl⟩, .inr ⟨pre ++ [s.extract j s.size], ⟨[], by rw [HM2.out]; simp⟩, hJx3⟩⟩
set_option maxHeartbeats 1000000 in
theorem fseq_in (F : Fence) (n : Nat) (h28 : F.fn 28) (hro : F.round = none) (s : ByteArray) (w : World) :
    CallsIn F n Tryd.prog 28 #[.string s] w fun e w' => e = .returned (.func (.func 49) #[] #[.pointer (some ⟨w.heap.size, 0, none⟩)]) ∧ w' = w.alloc (.cells #[.string s] 9) := by
  refine callsIn_of_wp Tryd.func28 rfl h28 ?_ hro
  simp only [Tryd.ntmps28, List.size_toArray, List.length_cons, List.length_nil, Nat.reduceAdd, Nat.reduceSub, Array.replicate_succ, Array.replicate_zero, List.push_toArray, List.append_toArray, List.nil_append, List.cons_append]
  gi_wp2
  go_ret
  exact ⟨rfl, rfl⟩
end Go.Proofs.YtepphihcggppbaaDoor.A
