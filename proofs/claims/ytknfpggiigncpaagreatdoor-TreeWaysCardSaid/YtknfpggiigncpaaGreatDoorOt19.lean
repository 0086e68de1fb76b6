/- chapter 11's wakes, walked by hand. -/
import Derived.Test.YtknfpggiigncpaaGreatDoorCx0
import Derived.Test.YtknfpggiigncpaaGreatDoorXParse
import Derived.Lib.ConvBytes
import Derived.Lib.Hide
import Derived.LoopTactic
import Derived.Test.YtknfpggiigncpaaGreatDoorXTok4
import Derived.Test.YtknfpggiigncpaaGreatDoorOt2
import Derived.RangeFuncNested
import Derived.RangeFuncBound
import Derived.RangeFuncCalls
import Derived.RangeFuncLeaves
import Derived.Shelf.Abstract
import Derived.Shelf.RegionOpen
import Derived.WalkKit
import Derived.OwnWalkIn
import Derived.TacticsInMore
import Derived.LoopNIn
import Derived.LoopIn
import Derived.Test.YtknfpggiigncpaaGreatDoorXUnesc
import Derived.Test.YtknfpggiigncpaaGreatDoorXOnce
import Derived.Lib.BufferKept
import Derived.Deep.CutBlock
set_option linter.unusedVariables false
set_option linter.unusedSimpArgs false
section
namespace Go.Proofs.YtknfpggiigncpaaGreatDoor.E
open Go.RowKit P YtknfpggiigncpaaGreatDoorW.PrintLast YtknfpggiigncpaaGreatDoorW.PrintMore
open YtknfpggiigncpaaGreatDoorW.PrintWords
theorem add_add (ad : Addr) (a b : Nat) : (ad.add a).add b = ad.add (a + b) := by
 unfold Addr.add
 by_cases h1 : a = 0
 ·
  subst h1; simp
 ·
  by_cases h2 : b = 0
  ·
   subst h2; simp
  ·
   rw [if_neg h1, if_neg h2, if_neg (by omega)]
   simp [Nat.add_assoc]
end Go.Proofs.YtknfpggiigncpaaGreatDoor.E
end
section
namespace Go.Proofs.YtknfpggiigncpaaGreatDoor.E
open Go.RowKit P B
open YtknfpggiigncpaaGreatDoorW.PrintWords
theorem escL_len : ∀ l : List UInt8, (escL l).length ≤ 6 * l.length
 | [] => by simp [escL]
 | b :: r => by
  rw [escL_cons]
  have := escL_len r
  have := escByte_len b
  simp only [List.length_append, List.length_cons]
  omega
end Go.Proofs.YtknfpggiigncpaaGreatDoor.E
end
section
namespace Go.Proofs.YtknfpggiigncpaaGreatDoor.E
open Go.RowKit P YtknfpggiigncpaaGreatDoorW.PrintLast YtknfpggiigncpaaGreatDoorW.PrintMore
open YtknfpggiigncpaaGreatDoorW.PrintWords
def Bx (w W : World) (v : S24) (A : Option Addr) (c : Nat) : Prop :=
 W.cell? ⟨w.heap.size, 0, none⟩ = some (.string v.f0) ∧ W.cell? ⟨w.heap.size, 1, none⟩ = some (.string v.f1) ∧ W.cell? ⟨w.heap.size, 2, none⟩ = some (.slice A v.f2.length c) ∧
  Below w.heap.size w W ∧ k24.C W A v.f2.length v.f2 ∧ Glob W
theorem Bx.step {w W W' : World} {v : S24} {A : Option Addr} {c : Nat} (h : Bx w W v A c) (hb : Below W.heap.size W W') : Bx w W' v A c :=
 ⟨cellBelow hb h.1, cellBelow hb h.2.1, cellBelow hb h.2.2.1, h.2.2.2.1.trans (hb.mono h.2.2.2.1.size), Kd.C_below h.2.2.2.2.1 hb, h.2.2.2.2.2.below hb⟩
theorem cells_al (w : World) (cs : Array Value) (t : TypeId) : (w.alloc (.cells cs t)).heap[w.heap.size]? = some (.cells cs t (0, 0)) := by
 show (w.heap.push _)[w.heap.size]? = _
 simp
theorem new_cell (W : World) (c : Array Value) (t : TypeId) (b : Nat) (hb : W.heap.size = b) (i : Nat) : (W.alloc (.cells c t)).cell? ⟨b, i, none⟩ = c[i]? ∧ (W.alloc (.cells c t)).frozen? ⟨b, i, none⟩ = false := by
 subst hb
 exact ⟨cell_of_row _ _ _ _ _ _ (cells_al W c t), frozen_of_row _ _ _ _ _ (cells_al W c t)⟩
theorem Bx.mk {w : World} {v : S24} {A : Option Addr} {c : Nat} (hr : k24.C w A v.f2.length v.f2) (hG : Glob w) : Bx w (w.alloc (.cells #[.string v.f0, .string v.f1, .slice A v.f2.length c] 24)) v A c :=
 ⟨(new_cell w _ _ _ rfl 0).1, (new_cell w _ _ _ rfl 1).1, (new_cell w _ _ _ rfl 2).1, below_alloc (Below.refl _ _) _, Kd.C_below hr (below_alloc (Below.refl _ _) _), hG.below (below_alloc (Below.refl _ _) _)⟩
end Go.Proofs.YtknfpggiigncpaaGreatDoor.E
end
section
namespace Go.Proofs.YtknfpggiigncpaaGreatDoor.E
open Go.RowKit Go.Shelf P YtknfpggiigncpaaGreatDoorW.PrintLast YtknfpggiigncpaaGreatDoorW.PrintMore
open YtknfpggiigncpaaGreatDoorW.PrintWords
attribute [local go_sem] Oper.semAt_some
def KeepB (n b c : Nat) (A B : World) : Prop := (Below n A B ∧ A.heap.size ≤ B.heap.size) ∧ ∀ k o, A.heap[k]? = some o → o.isCells = true → k ≠ b → k ≠ c → B.heap[k]? = some o
theorem KeepB.trans {n b c : Nat} {A B C : World} (h : KeepB n b c A B) (k : KeepB n b c B C) : KeepB n b c A C :=
 ⟨⟨h.1.1.trans k.1.1, Nat.le_trans h.1.2 k.1.2⟩, fun i o ho hc h1 h2 => k.2 i o (h.2 i o ho hc h1 h2) hc h1 h2⟩
theorem KeepB.refl {n b c : Nat} (A : World) : KeepB n b c A A := ⟨⟨Below.refl _ _, Nat.le_refl _⟩, fun i o ho _ _ _ => ho⟩
theorem KeepB.of_below {n b c : Nat} {A B : World} (h : Below A.heap.size A B) (hn : n ≤ A.heap.size) : KeepB n b c A B :=
 ⟨⟨h.mono hn, h.size⟩, fun i o ho _ _ _ => (h.block i (Array.getElem?_eq_some_iff.1 ho).1).trans ho⟩
def Bv (W : World) (b : Nat) (v : S24) (A : Option Addr) (c : Nat) : Prop := W.heap[b]? = some (.cells #[.string v.f0, .string v.f1, .slice A v.f2.length c] 24 (0, 0))
theorem Bv.cells {W : World} {b : Nat} {v : S24} {A : Option Addr} {c : Nat} (h : Bv W b v A c) :
  W.cell? ⟨b, 0, none⟩ = some (.string v.f0) ∧ W.cell? ⟨b, 1, none⟩ = some (.string v.f1) ∧ W.cell? ⟨b, 2, none⟩ = some (.slice A v.f2.length c) :=
 ⟨cell_of_row _ _ _ _ _ _ h, cell_of_row _ _ _ _ _ _ h, cell_of_row _ _ _ _ _ _ h⟩
theorem smallT.kid {e : Nat} {v : S24} (h : smallT (e + 1) v) : ∀ k ∈ v.f2, smallT e k := h.2
end Go.Proofs.YtknfpggiigncpaaGreatDoor.E
end
section
namespace Go.Proofs.YtknfpggiigncpaaGreatDoor.E
open Go.RowKit P YtknfpggiigncpaaGreatDoorW.PrintLast YtknfpggiigncpaaGreatDoorW.PrintMore
open YtknfpggiigncpaaGreatDoorW.PrintWords
theorem C_nil {α : Type} (d : Kd α) (w : World) (A : Option Addr) : d.C w A 0 [] := ⟨rfl, by omega, fun h => absurd h (by omega)⟩
end Go.Proofs.YtknfpggiigncpaaGreatDoor.E
end
section
namespace Go.Proofs.YtknfpggiigncpaaGreatDoor.E
open Go.RowKit Go.Shelf P YtknfpggiigncpaaGreatDoorW.PrintLast YtknfpggiigncpaaGreatDoorW.PrintMore
open YtknfpggiigncpaaGreatDoorW.PrintWords
attribute [local go_sem] Oper.semAt_some
def Rdm (B n b c : Nat) (W W' : World) : Prop := KeepsFrom B W W' ∧ KeepB n b c W W'
theorem Rdm.trans {B n b c : Nat} {X Y Z : World} (h : Rdm B n b c X Y) (k : Rdm B n b c Y Z) : Rdm B n b c X Z := ⟨h.1.trans k.1, h.2.trans k.2⟩
theorem Rdm.of_below {B n b c : Nat} {W W' : World} (h : Below W.heap.size W W') (hn : n ≤ W.heap.size) : Rdm B n b c W W' :=
 ⟨⟨h.size, fun k o _ hk _ => (h.block k (Array.getElem?_eq_some_iff.1 hk).1).trans hk⟩, KeepB.of_below h hn⟩
theorem Rdm.set {B n b c d : Nat} {W : World} (v : Value) (hd : d = b ∨ d = c) (hn : n ≤ d) : Rdm B n b c W (W.setCell ⟨d, 0, none⟩ v) := by
 refine ⟨(KeepsOthers.setCell _ _ _).from _, ⟨⟨(Below.refl n W).setCell (p := ⟨d, 0, none⟩) hn _, by simp⟩, fun k o ho _ h1 h2 => ?_⟩⟩
 exact ((grownBy_setCell' W d v).block k (Array.getElem?_eq_some_iff.1 ho).1 (fun e => by cases e; omega)).trans ho
end Go.Proofs.YtknfpggiigncpaaGreatDoor.E
end
section
namespace Go.Proofs.YtknfpggiigncpaaGreatDoor.E
open Go.RowKit P YtknfpggiigncpaaGreatDoorW.PrintLast YtknfpggiigncpaaGreatDoorW.PrintMore
open YtknfpggiigncpaaGreatDoorW.PrintWords
def Em (w0 W : World) (b g : Nat) (v : S24) (A : Option Addr) (c : Nat) (out : List UInt8) (W' : World) : Prop :=
 Lib.IsBuilderF 65 5 w0.heap.size b (Lib.byteCells out) W' ∧ Below w0.heap.size w0 W' ∧ Below w0.heap.size W W' ∧ Lib.OthersKept 5 (some b) W W' ∧ Glob W' ∧ Bv W' g v A c
theorem Em.put {w0 W : World} {b g : Nat} {v : S24} {A : Option Addr} {c : Nat} {out s : List UInt8} {W1 W2 : World} (h : Em w0 W b g v A c out W1) (hg : g ≠ b) (hG : Glob w0)
  (h1 : Lib.IsBuilderF 65 5 w0.heap.size b (Lib.byteCells (out ++ s)) W2) (h2 : Below w0.heap.size W1 W2) (h3 : Lib.OthersKept 5 (some b) W1 W2) : Em w0 W b g v A c (out ++ s) W2 :=
 ⟨h1, h.2.1.trans h2, h.2.2.1.trans h2, h.2.2.2.1.trans h3, hG.below (h.2.1.trans h2), h3 _ _ h.2.2.2.2.2 (fun e => hg (Option.some.inj e)) (fun c fz e => by cases e)⟩
theorem Em.step {w0 W : World} {b g : Nat} {v : S24} {A : Option Addr} {c : Nat} {out : List UInt8} {W1 W2 : World} (h : Em w0 W b g v A c out W1) (hb : Below W1.heap.size W1 W2) : Em w0 W b g v A c out W2 :=
 ⟨builder_below h.1 hb, h.2.1.trans (hb.mono h.2.1.size), h.2.2.1.trans (hb.mono h.2.1.size), Lib.OthersKept.below h.2.2.2.1 hb, h.2.2.2.2.1.below hb, (hb.block g (Array.getElem?_eq_some_iff.1 h.2.2.2.2.2).1).trans h.2.2.2.2.2⟩
theorem Em.mk {w0 W : World} {b : Nat} {v : S24} {A : Option Addr} {c : Nat} {out : List UInt8} (h1 : Lib.IsBuilderF 65 5 w0.heap.size b (Lib.byteCells out) W) (h2 : Below w0.heap.size w0 W) (hG : Glob w0) :
  Em w0 W b W.heap.size v A c out (W.alloc (.cells #[.string v.f0, .string v.f1, .slice A v.f2.length c] 24)) := by
 have hb := below_alloc (Below.refl W.heap.size W) (.cells #[.string v.f0, .string v.f1, .slice A v.f2.length c] 24)
 exact ⟨builder_below h1 hb, h2.trans (hb.mono h2.size), hb.mono h2.size, Lib.OthersKept.below (Lib.OthersKept.refl 5 (some b) W) hb, hG.below (h2.trans (hb.mono h2.size)), cells_al _ _ _⟩
theorem Em.glob {w0 W : World} {b g : Nat} {v : S24} {A : Option Addr} {c : Nat} {out : List UInt8} {W' : World} (h : Em w0 W b g v A c out W') : Glob W' := h.2.2.2.2.1
theorem row_one (w : World) (g : Nat) (t : TypeId) (x : S24) (A : Option Addr) (c : Nat) (hl : x.f2.length ≤ c) (hC : k24.C w A x.f2.length x.f2) (hg : w.heap[g]? = some (.cells #[.string x.f0, .string x.f1, .slice A x.f2.length c] t (0, 0))) :
  k24.C w (some ⟨g, 0, none⟩) 1 [x] := by
 have hc : ∀ i, w.cell? ⟨g, i, none⟩ = (#[.string x.f0, .string x.f1, .slice A x.f2.length c] : Array Value)[i]? := fun i => cell_of_row _ _ _ _ _ _ hg
 refine ⟨rfl, by omega, fun _ => ⟨_, rfl, fun j p hj => ?_⟩⟩
 match j, hj with
 | 0, hj =>
  obtain rfl : x = p := Option.some.inj hj
  refine ⟨[.string x.f0, .string x.f1, .slice A x.f2.length c], rfl, k24_mk w x hl hC, fun i u hu => ?_⟩
  rw [show (0 * k24.sz + i) = i by omega]
  match i, hu with
  | 0, hu => cases hu; exact hc 0
  | 1, hu => cases hu; exact hc 1
  | 2, hu => cases hu; exact hc 2
def T1 (w0 : World) (g : Nat) (v : S24) (A : Option Addr) (c : Nat) (W : World) : Prop := Below w0.heap.size w0 W ∧ Bv W g v A c ∧ Glob W ∧ k24.C W A v.f2.length v.f2
theorem T1.step {w0 : World} {g : Nat} {v : S24} {A : Option Addr} {c : Nat} {W W' : World} (h : T1 w0 g v A c W) (hb : Below W.heap.size W W') : T1 w0 g v A c W' :=
 ⟨h.1.trans (hb.mono h.1.size), (hb.block g (Array.getElem?_eq_some_iff.1 h.2.1).1).trans h.2.1, h.2.2.1.below hb, Kd.C_below h.2.2.2 hb⟩
end Go.Proofs.YtknfpggiigncpaaGreatDoor.E
end
