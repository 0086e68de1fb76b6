/- out.walk and out.parts: the iterator over a tree's parts: by hand. -/
import Derived.RangeFuncNested
import Derived.RangeFuncBound
import Derived.RangeFuncCalls
import Derived.RangeFuncLeaves
import Derived.Shelf.Abstract
import Derived.Shelf.RegionOpen
import Derived.WalkKit
import Derived.OwnWalkIn
import Derived.TacticsInMore
import Derived.LoopNIn
import Derived.LoopIn
import Derived.Test.YtknfpggiigncpaaGreatDoorOt13
set_option maxHeartbeats 8000000
set_option maxRecDepth 100000
set_option linter.unusedVariables false
set_option linter.unusedSimpArgs false
namespace Go.Proofs.YtknfpggiigncpaaGreatDoor.E
open Go.RowKit Go.Shelf P YtknfpggiigncpaaGreatDoorW.PrintLast YtknfpggiigncpaaGreatDoorW.PrintMore
open YtknfpggiigncpaaGreatDoorW.PrintWords
attribute [local go_sem] Oper.semAt_some
theorem room_of_none {F : Fence} (hd : F.depth = none) (k : Nat) : F.room k := fun d h => by rw [hd] at h; cases h
theorem round_any {F : Fence} (hd : F.depth = none) {m m' : Nat} {P : Program} {l : Nat} {f : FuncId} {tmps : Array Value} {assign body : Code} {w : World} {R : Ending → World → Prop}
  (h : RoundIn F m P l f tmps assign body w R) : RoundIn F m' P l f tmps assign body w R := ⟨h.1, fun c cs _ => h.2 c cs (room_of_none hd _)⟩
theorem yield_any {F : Fence} (hd : F.depth = none) {m : Nat} (m' : Nat) {P : Program} {l : Nat} {args : Array Value} {W : World} {R : Ending → World → Prop} (h : YieldAt F m P l args W R) : YieldAt F m' P l args W R := by
 obtain ⟨fn, tmps, assign, body, hy, hR⟩ := h
 exact ⟨fn, tmps, assign, body, hy, round_any hd hR⟩
def ItOk (w0 : World) (x : Nat × S24 × Option Addr × Nat) : Prop :=
 x.1 ≤ 65 ∧ k24.C w0 x.2.2.1 x.2.1.f2.length x.2.1.f2 ∧ x.2.1.f2.length ≤ x.2.2.2 ∧ sized x.2.1 ∧ ∀ k ∈ x.2.1.f2, sized k
abbrev It (w0 : World) := { x : Nat × S24 × Option Addr × Nat // ItOk w0 x }
def valI (v : S24) (A : Option Addr) (c : Nat) : Value := .agg #[.string v.f0, .string v.f1, .slice A v.f2.length c]
def encI {w0 : World} (x : It w0) : Array Value := #[.int .i64 (x.1.1 : Int), valI x.1.2.1 x.1.2.2.1 x.1.2.2.2]
def prj {w0 : World} (x : It w0) : Nat × S24 := (x.1.1, x.1.2.1)
def KeepB (n b c : Nat) (A B : World) : Prop := (Below n A B ∧ A.heap.size ≤ B.heap.size) ∧ ∀ k o, A.heap[k]? = some o → o.isCells = true → k ≠ b → k ≠ c → B.heap[k]? = some o
theorem KeepB.trans {n b c : Nat} {A B C : World} (h : KeepB n b c A B) (k : KeepB n b c B C) : KeepB n b c A C :=
 ⟨⟨h.1.1.trans k.1.1, Nat.le_trans h.1.2 k.1.2⟩, fun i o ho hc h1 h2 => k.2 i o (h.2 i o ho hc h1 h2) hc h1 h2⟩
theorem KeepB.refl {n b c : Nat} (A : World) : KeepB n b c A A := ⟨⟨Below.refl _ _, Nat.le_refl _⟩, fun i o ho _ _ _ => ho⟩
theorem KeepB.of_below {n b c : Nat} {A B : World} (h : Below A.heap.size A B) (hn : n ≤ A.heap.size) : KeepB n b c A B :=
 ⟨⟨h.mono hn, h.size⟩, fun i o ho _ _ _ => (h.block i (Array.getElem?_eq_some_iff.1 ho).1).trans ho⟩
theorem keepB_b {n b c : Nat} {w : World} (hn : n ≤ w.heap.size) (W : World) (l : Nat) (o o' : Obj) (hl : w.heap.size ≤ l) (h : W.heap[l]? = some o) (h1 : o.isCells = false) (h2 : o.isWalk = false) : KeepB n b c W (W.putObj l o') :=
 ⟨⟨belowK_b hn W l o o' hl h h1 h2, by have := (World.grownBy.size (grownBy_putObj' W l o')); exact this⟩, fun i q hq hc _ _ => (World.putObj_heap_other (by rintro rfl; rw [h] at hq; cases hq; rw [h1] at hc; cases hc)).trans hq⟩
def Bv (W : World) (b : Nat) (v : S24) (A : Option Addr) (c : Nat) : Prop := W.heap[b]? = some (.cells #[.string v.f0, .string v.f1, .slice A v.f2.length c] 24 (0, 0))
theorem Bv.cells {W : World} {b : Nat} {v : S24} {A : Option Addr} {c : Nat} (h : Bv W b v A c) :
  W.cell? ⟨b, 0, none⟩ = some (.string v.f0) ∧ W.cell? ⟨b, 1, none⟩ = some (.string v.f1) ∧ W.cell? ⟨b, 2, none⟩ = some (.slice A v.f2.length c) :=
 ⟨cell_of_row _ _ _ _ _ _ h, cell_of_row _ _ _ _ _ _ h, cell_of_row _ _ _ _ _ _ h⟩
def Yld (F : Fence) (w0 : World) (b2 b3 l N : Nat) (J Jx : List (It w0) → World → Prop) : Prop :=
 ∀ (m : Nat) (pre : List (It w0)) (x : It w0) (W : World), J pre W → pre.length < N → Below w0.heap.size w0 W → YieldAt F m Tryz.prog l (encI x) W fun e W' =>
   (e = .returned (.bool true) ∧ J (pre ++ [x]) W' ∧ KeepB w0.heap.size b2 b3 W W') ∨ (e = .returned (.bool false) ∧ Jx (pre ++ [x]) W')
theorem smallT.kid {e : Nat} {v : S24} (h : smallT (e + 1) v) : ∀ k ∈ v.f2, smallT e k := h.2
def WalkAt (F : Fence) (w0 : World) (b2 b3 l N : Nat) (J Jx : List (It w0) → World → Prop) (e : Nat) : Prop :=
 ∀ (d n : Nat) (v : S24) (A : Option Addr) (c : Nat) (pre : List (It w0)) (W : World), e + d = 65 → smallT (e + 1) v → k24.C w0 A v.f2.length v.f2 → v.f2.length ≤ c → J pre W → Below w0.heap.size w0 W → b2 < W.heap.size → b3 < W.heap.size →
   pre.length + (partsT e d v).length ≤ N →
   CallsIn F n Tryz.prog 82 #[.agg #[.string v.f0, .string v.f1, .slice A v.f2.length c], .int .i64 (d : Int), .func (.yield l) #[] #[]] W fun r W' =>
    (r = .returned (.bool true) ∧ ∃ xs : List (It w0), xs.map prj = partsT e d v ∧ J (pre ++ xs) W' ∧ KeepB w0.heap.size b2 b3 W W') ∨
    (r = .returned (.bool false) ∧ ∃ xs : List (It w0), xs.map prj <+: partsT e d v ∧ Jx (pre ++ xs) W')
theorem first_round {F : Fence} {w0 : World} {b2 b3 l N : Nat} {J Jx : List (It w0) → World → Prop} (hY : Yld F w0 b2 b3 l N J Jx) (hJa : ∀ s W o, J s W → J s (W.alloc o))
  (e d n : Nat) (v : S24) (A : Option Addr) (c : Nat) (pre : List (It w0)) (W : World) (hed : d ≤ 65) (hsm : smallT (e + 1) v) (hC : k24.C w0 A v.f2.length v.f2) (hc : v.f2.length ≤ c) (hJ : J pre W) (hb : Below w0.heap.size w0 W)
  (h2 : b2 < W.heap.size) (h3 : b3 < W.heap.size) (hN : pre.length < N) :
  ∃ x : It w0, prj x = (d, v) ∧ YieldAt F n Tryz.prog l #[.int .i64 (d : Int), .agg #[.string v.f0, .string v.f1, .slice A v.f2.length c]] (W.alloc (.cells #[.string v.f0, .string v.f1, .slice A v.f2.length c] 24)) fun r W' =>
   (r = .returned (.bool true) ∧ J (pre ++ [x]) W' ∧ KeepB w0.heap.size b2 b3 W W' ∧ Bv W' W.heap.size v A c) ∨ (r = .returned (.bool false) ∧ Jx (pre ++ [x]) W') := by
 obtain ⟨x, hx⟩ : ∃ x : It w0, x.1 = (d, v, A, c) := ⟨⟨(d, v, A, c), hed, hC, hc, hsm.top, fun k hk => (hsm.kid k hk).top⟩, rfl⟩
 refine ⟨x, by unfold prj; rw [hx], ?_⟩
 have hy := hY n pre x (W.alloc (.cells #[.string v.f0, .string v.f1, .slice A v.f2.length c] 24)) (hJa _ _ _ hJ) hN (hb.alloc hb.size _)
 have he : encI x = #[.int .i64 (d : Int), .agg #[.string v.f0, .string v.f1, .slice A v.f2.length c]] := by unfold encI valI; rw [hx]
 rw [he] at hy
 refine YieldAt.mono hy ?_
 rintro r W' (⟨h, hj, hk⟩ | h)
 ·
  exact .inl ⟨h, hj, (KeepB.of_below (below_alloc (Below.refl _ _) _) hb.size).trans hk, hk.2 _ _ (cells_al _ _ _) rfl (by omega) (by omega)⟩
 ·
  exact .inr h
theorem walk_zero (F : Fence) (hd : F.depth = none) (h82 : F.fn 82) (hro : F.round = none) (w0 : World) (b2 b3 l N : Nat) (J Jx : List (It w0) → World → Prop) (hY : Yld F w0 b2 b3 l N J Jx) (hJa : ∀ s W o, J s W → J s (W.alloc o)) :
  WalkAt F w0 b2 b3 l N J Jx 0 := by
 have hdd : ∀ k : Nat, (F.depth.isSome = true → 1 ≤ k) := fun k h => by rw [hd] at h; cases h
 intro d n v A c pre W hed hsm hC hc hJ hb h2 h3 hN
 have hu24 := Tryz.underlying24
 have d64 : decide ((64 : Int) < (d : Int)) = true := decide_eq_true (by omega)
 obtain ⟨x, hpx, fn, tmps, assign, body, hy, hR⟩ := first_round hY hJa 0 d (n - 1) v A c pre W (by omega) hsm hC hc hJ hb h2 h3 (by simp only [partsT, List.length_cons, List.length_nil] at hN; omega)
 refine callsIn_of_wp Tryz.func82 rfl h82 ?_ hro
 simp only [Tryz.ntmps82, List.size_toArray, List.length_cons, List.length_nil, Nat.reduceAdd, Nat.reduceSub, Array.replicate_succ, Array.replicate_zero, List.push_toArray, List.append_toArray, List.nil_append, List.cons_append]
 have HC := Lib.hid hC
 have HR := Lib.hid hR
 clear hC hR
 gi_wp2
 refine HR.out.mono ?_
 rintro r W1 (⟨rfl, hJ1, hk1, bv⟩ | ⟨rfl, hx1⟩)
 ·
  gi_wp2
  go_ret
  exact .inl ⟨rfl, [x], by simp [hpx, partsT], hJ1, hk1⟩
 ·
  gi_wp2
  go_ret
  exact .inr ⟨rfl, [x], by simp [hpx, partsT], hx1⟩
theorem walk_succ (F : Fence) (hd : F.depth = none) (h82 : F.fn 82) (hro : F.round = none) (w0 : World) (b2 b3 l N : Nat) (J Jx : List (It w0) → World → Prop) (hY : Yld F w0 b2 b3 l N J Jx) (hJa : ∀ s W o, J s W → J s (W.alloc o)) (e : Nat) (ih : WalkAt F w0 b2 b3 l N J Jx e) :
  WalkAt F w0 b2 b3 l N J Jx (e + 1) := by
 have hdd : ∀ k : Nat, (F.depth.isSome = true → 1 ≤ k) := fun k h => by rw [hd] at h; cases h
 intro d n v A c pre W hed hsm hC hc hJ hb h2 h3 hN
 have hu24 := Tryz.underlying24
 have hlen : pre.length < N := by simp only [partsT, List.length_cons] at hN; omega
 obtain ⟨x, hpx, fn, tmps, assign, body, hy, hR⟩ := first_round hY hJa (e + 1) d (n - 1) v A c pre W (by omega) hsm hC hc hJ hb h2 h3 hlen
 have HR := Lib.hid hR
 have HC := Lib.hid hC
 have IH := Lib.hid ih
 clear hC hR ih
 have d64 : decide ((64 : Int) < (d : Int)) = false := decide_eq_false (by omega)
 have hvl : v.f2.length ≤ 1000000 := hsm.top.2.2
 refine callsIn_of_wp Tryz.func82 rfl h82 ?_ hro
 simp only [Tryz.ntmps82, List.size_toArray, List.length_cons, List.length_nil, Nat.reduceAdd, Nat.reduceSub, Array.replicate_succ, Array.replicate_zero, List.push_toArray, List.append_toArray, List.nil_append, List.cons_append]
 gi_wp2
 refine HR.out.mono ?_
 rintro r W1 (⟨rfl, hJ1, hk1, bv⟩ | ⟨rfl, hx1⟩)
 ·
  obtain ⟨c0, c1, c2⟩ := bv.cells
  have HK1 := Lib.hid hk1
  have HJ1 := Lib.hid hJ1
  clear hk1 hJ1
  gi_wp2
  gi_loopw [19] (fun v19 wr => ∃ (i : Nat) (xs : List (It w0)), v19 = .int .i64 i ∧ i ≤ v.f2.length ∧ Hid (xs.map prj = (d, v) :: (v.f2.take i).flatMap (partsT e (d + 1))) ∧ Hid (J (pre ++ xs) wr) ∧ Hid (KeepB w0.heap.size b2 b3 W wr)) (fun v19 _ => v.f2.length - (intOf v19).toNat)
  case atStart =>
   exact ⟨0, [x], rfl, Nat.zero_le _, (show [x].map prj = _ by simp [hpx]), HJ1.out, HK1.out⟩
  case round =>
   obtain ⟨i, xs, rfl, hi, HM, HJ, HK⟩ := hrel
   by_cases hlt : i < v.f2.length
   ·
    have hbr : Below w0.heap.size w0 wr := hb.trans HK.out.1.1
    obtain ⟨ad, A2, cc, e1, k0, k1, k2, l2, g2⟩ := at_T24 HC.out (i : Int) (by omega) (by omega)
    subst e1
    simp at k0 k1 k2
    replace k0 := cellBelow hbr k0
    replace k1 := cellBelow hbr k1
    replace k2 := cellBelow hbr k2
    have hpr : (v.f2.take (i + 1)).flatMap (partsT e (d + 1)) = (v.f2.take i).flatMap (partsT e (d + 1)) ++ partsT e (d + 1) (rd_T24 v.f2 (i : Int)) := by
     rw [rd_get v.f2 i hlt, take_succ_at v.f2 i hlt, List.flatMap_append, List.flatMap_singleton]
    have hpre : ∃ q, v.f2.flatMap (partsT e (d + 1)) = (v.f2.take i).flatMap (partsT e (d + 1)) ++ (partsT e (d + 1) (rd_T24 v.f2 (i : Int)) ++ q) := by
     refine ⟨(v.f2.drop (i + 1)).flatMap (partsT e (d + 1)), ?_⟩
     conv => lhs; rw [← List.take_append_drop i v.f2, List.flatMap_append, List.drop_eq_getElem_cons hlt, List.flatMap_cons]
     rw [rd_get v.f2 i hlt]
    have hsk : smallT (e + 1) (rd_T24 v.f2 (i : Int)) := by rw [rd_get v.f2 i hlt]; exact hsm.kid _ (List.getElem_mem hlt)
    have hxl : xs.length = 1 + ((v.f2.take i).flatMap (partsT e (d + 1))).length := by
     have := congrArg List.length HM.out
     rw [List.length_map, List.length_cons] at this
     omega
    have hNk : (pre ++ xs).length + (partsT e (d + 1) (rd_T24 v.f2 (i : Int))).length ≤ N := by
     obtain ⟨q, hq⟩ := hpre
     simp only [partsT, List.length_cons] at hN
     rw [hq] at hN
     simp only [List.length_append] at hN ⊢
     omega
    have hcall := IH.out (d + 1) (n - 1) (rd_T24 v.f2 (i : Int)) A2 cc (pre ++ xs) (wr.alloc (.cells #[.string (rd_T24 v.f2 (i : Int)).f0, .string (rd_T24 v.f2 (i : Int)).f1, .slice A2 (rd_T24 v.f2 (i : Int)).f2.length cc] 24)) (by omega) hsk g2 l2 (hJa _ _ _ HJ.out) (hbr.alloc hbr.size _)
     (by have := HK.out.1.2; simp; omega) (by have := HK.out.1.2; simp; omega) hNk
    have hKr : KeepB w0.heap.size b2 b3 W (wr.alloc (.cells #[.string (rd_T24 v.f2 (i : Int)).f0, .string (rd_T24 v.f2 (i : Int)).f1, .slice A2 (rd_T24 v.f2 (i : Int)).f2.length cc] 24)) := HK.out.trans (KeepB.of_below (below_alloc (Below.refl _ _) _) hbr.size)
    have HCall := Lib.hid hcall
    have HPR := Lib.hid hpr
    have HPRE := Lib.hid hpre
    have HKr := Lib.hid hKr
    clear hcall hpr hpre hNk hxl hsk g2 hKr
    generalize rd_T24 v.f2 (i : Int) = el at *
    have hd1 : ((d + 1 : Nat) : Int) = (d : Int) + 1 := by omega
    rw [hd1] at HCall
    gi_wp2
    refine HCall.out.mono ?_
    rintro r W3 (⟨rfl, ys, hy1, hy2, hy3⟩ | ⟨rfl, ys, hy1, hy2⟩)
    ·
     have HY1 := Lib.hid hy1
     have HY2 := Lib.hid hy2
     have HY3 := Lib.hid hy3
     clear hy1 hy2 hy3
     gi_wp2
     go_roundw
     case rel =>
      refine ⟨i + 1, xs ++ ys, by go_num, by omega, ?_, ?_, HKr.out.trans HY3.out⟩
      ·
       show (xs ++ ys).map prj = _
       rw [List.map_append, HM.out, HY1.out, HPR.out, List.cons_append]
      ·
       show J (pre ++ (xs ++ ys)) W3
       rw [← List.append_assoc]
       exact HY2.out
     case measure =>
      show v.f2.length - ((i : Int) + 1).toNat < v.f2.length - ((i : Int)).toNat
      omega
    ·
     have HY1 := Lib.hid hy1
     have HY2 := Lib.hid hy2
     clear hy1 hy2
     gi_wp2
     go_ret
     refine .inr ⟨rfl, xs ++ ys, ?_, by rw [← List.append_assoc]; exact HY2.out⟩
     obtain ⟨q, hq⟩ := HPRE.out
     rw [List.map_append, HM.out, partsT, hq]
     exact (List.prefix_cons_inj _).2 ((List.prefix_append_right_inj _).2 (HY1.out.trans (List.prefix_append _ _)))
   ·
    have hie : i = v.f2.length := by omega
    subst hie
    gi_wp2
    go_ret
    refine .inl ⟨rfl, xs, ?_, HJ.out, HK.out⟩
    rw [HM.out, List.take_length]
    rfl
 ·
  gi_wp2
  go_ret
  exact .inr ⟨rfl, [x], by simp [hpx, partsT], hx1⟩
theorem walkT_any (F : Fence) (hd : F.depth = none) (h82 : F.fn 82) (hro : F.round = none) (w0 : World) (b2 b3 l N : Nat) (J Jx : List (It w0) → World → Prop) (hY : Yld F w0 b2 b3 l N J Jx) (hJa : ∀ s W o, J s W → J s (W.alloc o)) :
  ∀ e, WalkAt F w0 b2 b3 l N J Jx e := by
 intro e
 induction e with
 | zero => exact walk_zero F hd h82 hro w0 b2 b3 l N J Jx hY hJa
 | succ e ih => exact walk_succ F hd h82 hro w0 b2 b3 l N J Jx hY hJa e ih
theorem parts1_in (F : Fence) (hd : F.depth = none) (n : Nat) (h81 : F.fn 81) (h82 : F.fn 82) (hro : F.round = none) (w0 : World) (b2 b3 l Bt : Nat) (v : S24) (A : Option Addr) (c : Nat) (J Jx : List (It w0) → World → Prop)
  (hY : Yld F w0 b2 b3 l (partsT 64 1 v).length J Jx) (hJa : ∀ s W o, J s W → J s (W.alloc o)) (W : World) (hbt : Bv W Bt v A c) (hsm : smallT 65 v) (hC : k24.C w0 A v.f2.length v.f2) (hc : v.f2.length ≤ c)
  (hb : Below w0.heap.size w0 W) (h2 : b2 < W.heap.size) (h3 : b3 < W.heap.size) (h0 : J [] W) :
  CallsIn F n Tryz.prog 81 #[.func (.yield l) #[] #[], .pointer (some ⟨Bt, 0, none⟩)] W fun e W' => (∃ u, e = .returned u) ∧
   ((∃ ys : List (It w0), ys.map prj = partsT 64 1 v ∧ J ys W') ∨ (∃ pre : List (It w0), pre.map prj <+: partsT 64 1 v ∧ Jx pre W')) := by
 have hdd : ∀ k : Nat, (F.depth.isSome = true → 1 ≤ k) := fun k h => by rw [hd] at h; cases h
 have hu24 := Tryz.underlying24
 have hp := walkT_any F hd h82 hro w0 b2 b3 l _ J Jx hY hJa 64 1 (n - 1) v A c [] W rfl hsm hC hc h0 hb h2 h3 (by simp)
 obtain ⟨c0, c1, c2⟩ := hbt.cells
 have HP := Lib.hid hp
 have HC := Lib.hid hC
 clear hp hC hY
 refine callsIn_of_wp Tryz.func81 rfl h81 ?_ hro
 simp only [Tryz.ntmps81, List.size_toArray, List.length_cons, List.length_nil, Nat.reduceAdd, Nat.reduceSub, Array.replicate_succ, Array.replicate_zero, List.push_toArray, List.append_toArray, List.nil_append, List.cons_append]
 gi_wp2
 refine HP.out.mono ?_
 rintro e W1 (⟨rfl, xs, hx, hJ1, _⟩ | ⟨rfl, q, hq, hx⟩)
 ·
  gi_wp2
  go_end0
  exact ⟨⟨_, rfl⟩, .inl ⟨xs, hx, by simpa using hJ1⟩⟩
 ·
  gi_wp2
  go_end0
  exact ⟨⟨_, rfl⟩, .inr ⟨q, hq, by simpa using hx⟩⟩
theorem parts_in (F : Fence) (n : Nat) (h52 : F.fn 52) (hro : F.round = none) (v : S24) (A : Option Addr) (c : Nat) (w : World) :
  CallsIn F n Tryz.prog 52 #[.agg #[.string v.f0, .string v.f1, .slice A v.f2.length c]] w fun e w' => e = .returned (.func (.func 81) #[] #[.pointer (some ⟨w.heap.size, 0, none⟩)]) ∧ w' = w.alloc (.cells #[.string v.f0, .string v.f1, .slice A v.f2.length c] 24) := by
 have hu24 := Tryz.underlying24
 refine callsIn_of_wp Tryz.func52 rfl h52 ?_ hro
 simp only [Tryz.ntmps52, List.size_toArray, List.length_cons, List.length_nil, Nat.reduceAdd, Nat.reduceSub, Array.replicate_succ, Array.replicate_zero, List.push_toArray, List.append_toArray, List.nil_append, List.cons_append]
 gi_wp2
 go_ret
 exact ⟨rfl, rfl⟩
theorem parts_stops (F : Fence) (hd : F.depth = none) (n : Nat) (h81 : F.fn 81) (h82 : F.fn 82) (hro : F.round = none) (w0 : World) (b2 b3 Bt : Nat) (v : S24) (A : Option Addr) (c : Nat) (w : World)
  (hbt : Bv w Bt v A c) (hsm : smallT 65 v) (hC : k24.C w0 A v.f2.length v.f2) (hc : v.f2.length ≤ c) (hb : Below w0.heap.size w0 w) (h2 : b2 < w.heap.size) (h3 : b3 < w.heap.size) :
  SeqStopsK F n Tryz.prog 81 #[.pointer (some ⟨Bt, 0, none⟩)] (encI (w0 := w0)) (KeepB w0.heap.size b2 b3) (fun ys => ys.map prj = partsT 64 1 v) (fun pre => pre.map prj <+: partsT 64 1 v) (partsT 64 1 v).length w := fun l J Jx W hW hJ hJx hY h0 =>
 parts1_in F hd n h81 h82 hro w0 b2 b3 l Bt v A c J Jx (fun m pre x W' hj hl _ => yield_any hd m (hY pre x W' hj hl)) (fun s W' o hj => hJ s W' _ none hj (World.grownBy_alloc W' o none) (fun r e => by cases e)) W
  ((hW.block Bt (Array.getElem?_eq_some_iff.1 hbt).1).trans hbt) hsm hC hc (hb.trans (hW.mono hb.size)) (by have := hW.size; omega) (by have := hW.size; omega) h0
end Go.Proofs.YtknfpggiigncpaaGreatDoor.E
