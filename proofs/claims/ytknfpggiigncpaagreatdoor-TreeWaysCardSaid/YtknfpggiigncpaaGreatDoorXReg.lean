/- A region that draws its order, whose first two operations are forced (a slot, then a call that may write), and whose other operations read alone: one walk serves every order. Condition: the closed facts on its edges. -/
import Derived.Test.YtknfpggiigncpaaGreatDoorAx0
import Derived.Deep.Quiet
import Derived.Deep.QuietTactic
import Derived.RegionTactic
set_option linter.unusedVariables false
set_option linter.unusedSimpArgs false
section
namespace Go.Proofs.YtknfpggiigncpaaGreatDoor.E
open P Go.RowKit YtknfpggiigncpaaGreatDoorW.PrintWords YtknfpggiigncpaaGreatDoorW.PrintLast YtknfpggiigncpaaGreatDoorW.PrintMore
attribute [local go_sem] max2_int min2_int max_two min_two max_three min_three max_four min_four
/-! ### remitterlaw10_attributes: function 40 -/
def remitterlaw10_attributes.l0 : Nat → Int → Int → ByteArray → ByteArray → List (S24) → Option (Int)
 | 0, _, _, _, _, _ => none
 | k + 1, x3, x4, x122000, x122001, x122002 => if x4 < (x122002.length : Int) then (if 0 ≤ x4 then (if 0 < (((rd_T24 x122002 x4).f0).size : Int) then (if (bt ((rd_T24 x122002 x4).f0) 0) = 64 then (remitterlaw10_attributes.l0 k (wrap64 (x3 + 1)) (wrap64 (x4 + 1)) x122000 x122001 x122002) else (remitterlaw10_attributes.l0 k x3 (wrap64 (x4 + 1)) x122000 x122001 x122002)) else (none)) else (none)) else (some x3)
def remitterlaw10_attributes.f (k : Nat) (a0_0 : ByteArray) (a0_1 : ByteArray) (l0_2 : List (S24)) : Option (Int) := remitterlaw10_attributes.l0 k 0 0 a0_0 a0_1 l0_2
set_option maxHeartbeats 8000000 in
set_option maxRecDepth 100000 in
theorem remitterlaw10_attributes.calls (k : Nat) (a0_0 : ByteArray) (a0_1 : ByteArray) (A0_2 : Option Addr) (c0_2 : Nat) (l0_2 : List (S24)) (r : Int) (w : World) (hr0_2 : Kd.C k24 w A0_2 l0_2.length l0_2) (hc0_2 : l0_2.length ≤ c0_2) (h : remitterlaw10_attributes.f k a0_0 a0_1 l0_2 = some r) :
  Calls Tryz.prog 40 #[.agg #[.string a0_0, .string a0_1, .slice A0_2 l0_2.length c0_2]] w fun e w' => e = .returned (.int .i64 r) ∧ Below w.heap.size w w' := by
 have hu24 := Tryz.underlying24
 have HR0_2 := Aside0.mk hr0_2
 have HC0_2 := Aside0.mk hc0_2
 clear hr0_2 hc0_2
 have HB := Aside0.mk (Below.refl w.heap.size w)
 have H : (remitterlaw10_attributes.l0 k 0 0 a0_0 a0_1 l0_2) = some r := h
 clear h
 have H' := Aside0.mk H
 clear H
 go_enter Tryz.func40, Tryz.ntmps40
 go_wp2_with (first | ((with_reducible refine gate_dst (N := 1) rfl ?_); refine box_event ?hg (N := 1) ?hd (cs := #[.string a0_0, .string a0_1, .slice A0_2 l0_2.length c0_2]) (t := 24) ?hr ?_; (case hd => rfl); (case hg => rfl); (case hr => first | (go_simp; done) | (go_simp; rfl)); intro gb121 hg w2 hbox hb; have n0_ := Aside0.mk (below_step (by repeat (first | (with_reducible first | exact HB.out | apply below_alloc | apply pw_below_drewN | apply below_drew1) | exact HB.out)) hb); have n1_ := Aside0.mk (hbox); have n2_ := Aside0.mk ((by rw [hg]; exact (below_size (by repeat (first | (with_reducible first | exact HB.out | apply below_alloc | apply pw_below_drewN | apply below_drew1) | exact HB.out))) : w.heap.size ≤ gb121)); have n3_ := Aside0.mk ((by rw [hg]; exact (below_size (by repeat (first | (with_reducible first | exact HB.out | apply below_alloc | apply pw_below_drewN | apply below_drew1) | exact HB.out))) : w.heap.size ≤ gb121)); clear HB; have HB := n0_; have BK121 := n1_; have GW121 := n2_; have GE121 := n3_; clear n0_ n1_ n2_ n3_; clear hb hbox hg))
 go_loopg [3, 4] k (fun kq v3 v4 w' => ∃ (x3_1 : Int) (x4_1 : Int), v3 = .int .i64 x3_1 ∧ v4 = .int .i64 x4_1 ∧ Aside0 (remitterlaw10_attributes.l0 kq x3_1 x4_1 a0_0 a0_1 l0_2 = some r) ∧ Aside0 (kq ≤ k) ∧ Aside0 (w'.heap[gb121]? = some (.cells #[.string a0_0, .string a0_1, (.slice A0_2 l0_2.length c0_2)] 24 (0, 0))) ∧ Aside0 (Below w.heap.size w w'))
 case atStart => exact ⟨(0), (0), rf3, rf3, H', ⟨Nat.le_refl _⟩, ⟨by (with_reducible repeat (first | refine blk_drewN ?_ _ | refine blk_drew ?_ | refine blk_alloc ?_ _)); exact BK121.out⟩, ⟨by repeat (first | (with_reducible first | exact HB.out | apply below_alloc | apply pw_below_drewN | apply below_drew1 | refine below_set ?_ GE121.out) | exact HB.out)⟩⟩
 case round =>
  clear H'
  obtain ⟨x3_1, x4_1, rfl, rfl, HA, HK1, BK121, HB⟩ := hrel
  cases gk with
  | zero => exact absurd HA.out (by simp [remitterlaw10_attributes.l0])
  | succ k1 =>
   have H := HA.out
   clear HA
   simp only [remitterlaw10_attributes.l0] at H
   by_cases c3 : x4_1 < (l0_2.length : Int)
   ·
    rw [if_pos c3] at H
    have c3b0 : decide (x4_1 < (l0_2.length : Int)) = true := decide_eq_true c3
    clear c3
    by_cases c4 : 0 ≤ x4_1
    ·
     rw [if_pos c4] at H
     have c4b0 : decide (0 ≤ x4_1) = true := decide_eq_true c4
     clear c4
     by_cases c5 : 0 < (((rd_T24 l0_2 x4_1).f0).size : Int)
     ·
      rw [if_pos c5] at H
      have c5b0 : decide (0 < (((rd_T24 l0_2 x4_1).f0).size : Int)) = true := decide_eq_true c5
      have c5b1 : decide (0 < ((rd_T24 l0_2 x4_1).f0).size) = true := decide_eq_true (by omega)
      clear c5
      by_cases c7 : (bt ((rd_T24 l0_2 x4_1).f0) 0) = 64
      ·
       rw [if_pos c7] at H
       have c7b0 : ((bt ((rd_T24 l0_2 x4_1).f0) 0) == 64) = true := beq_iff_eq.mpr c7
       have c7b1 : ((bt ((rd_T24 l0_2 x4_1).f0) 0) != 64) = false := bne_eq_false_iff_eq.mpr c7
       clear c7
       have H' := Aside0.mk H
       clear H
       have hcz8_0 : wr.cell? ⟨gb121, 0, none⟩ = some (.string a0_0) := (blk_cell BK121.out 0).trans rfl
       have hcz8_1 : wr.cell? ⟨gb121, 1, none⟩ = some (.string a0_1) := (blk_cell BK121.out 1).trans rfl
       have hcz8_2 : wr.cell? ⟨gb121, 2, none⟩ = some (.slice A0_2 l0_2.length c0_2) := (blk_cell BK121.out 2).trans rfl
       have hfz8_0 := blk_frozen BK121.out 0
       have hfz8_1 := blk_frozen BK121.out 1
       have hfz8_2 := blk_frozen BK121.out 2
       have p122 : 0 ≤ (x4_1 : Int) := of_decide_eq_true (by first | (with_reducible assumption) | assumption)
       have q122 : x4_1 < (l0_2.length : Int) := of_decide_eq_true (by first | (with_reducible assumption) | assumption)
       obtain ⟨ad122, A122_2, c122_2, e122, hx122_0, hx122_1, hx122_2, hl122_2, hi122_2⟩ := at_T24 HR0_2.out x4_1 p122 q122
       cases e122
       replace hx122_0 := (HB.out.cell (World.block_lt_of_cell? w _ hx122_0)).trans hx122_0
       replace hx122_1 := (HB.out.cell (World.block_lt_of_cell? w _ hx122_1)).trans hx122_1
       replace hx122_2 := (HB.out.cell (World.block_lt_of_cell? w _ hx122_2)).trans hx122_2
       have HR122_2 := Aside0.mk hi122_2
       have HC122_2 := Aside0.mk hl122_2
       clear hi122_2 hl122_2
       replace p122 := eq_true p122
       replace q122 := eq_true q122
       have p6 : 0 ≤ (0 : Int) := (by omega)
       have q6 : 0 < ((rd_T24 l0_2 x4_1).f0).size := (by have : (0 : Int) < (((rd_T24 l0_2 x4_1).f0).size : Int) := of_decide_eq_true (by first | (with_reducible assumption) | assumption); omega)
       have hx6 : ∀ h : 0 < ((rd_T24 l0_2 x4_1).f0).size, ((((rd_T24 l0_2 x4_1).f0)[0]'h).toNat : Int) = bt ((rd_T24 l0_2 x4_1).f0) 0 := bt_at ((rd_T24 l0_2 x4_1).f0) 0
       clear p6
       have qi6 : (0 < (((rd_T24 l0_2 x4_1).f0).size : Int)) = True := eq_true (of_decide_eq_true (by first | (with_reducible assumption) | assumption))
       replace q6 := eq_true q6
       go_wp2
       go_roundg k1
       case measure => have := HK1.out; omega
       case rel => exact ⟨(wrap64 (x3_1 + 1)), (wrap64 (x4_1 + 1)), rf3, rf3, H', ⟨by have := HK1.out; omega⟩, ⟨by (with_reducible repeat (first | refine blk_drewN ?_ _ | refine blk_drew ?_ | refine blk_alloc ?_ _)); exact BK121.out⟩, ⟨by repeat (first | (with_reducible first | exact HB.out | apply below_alloc | apply pw_below_drewN | apply below_drew1 | refine below_set ?_ GE121.out) | exact HB.out)⟩⟩
      ·
       rw [if_neg c7] at H
       have c7b0 : ((bt ((rd_T24 l0_2 x4_1).f0) 0) == 64) = false := beq_eq_false_iff_ne.mpr c7
       have c7b1 : ((bt ((rd_T24 l0_2 x4_1).f0) 0) != 64) = true := bne_iff_ne.mpr c7
       have H' := Aside0.mk H
       clear H
       have hcz9_0 : wr.cell? ⟨gb121, 0, none⟩ = some (.string a0_0) := (blk_cell BK121.out 0).trans rfl
       have hcz9_1 : wr.cell? ⟨gb121, 1, none⟩ = some (.string a0_1) := (blk_cell BK121.out 1).trans rfl
       have hcz9_2 : wr.cell? ⟨gb121, 2, none⟩ = some (.slice A0_2 l0_2.length c0_2) := (blk_cell BK121.out 2).trans rfl
       have hfz9_0 := blk_frozen BK121.out 0
       have hfz9_1 := blk_frozen BK121.out 1
       have hfz9_2 := blk_frozen BK121.out 2
       have p122 : 0 ≤ (x4_1 : Int) := of_decide_eq_true (by first | (with_reducible assumption) | assumption)
       have q122 : x4_1 < (l0_2.length : Int) := of_decide_eq_true (by first | (with_reducible assumption) | assumption)
       obtain ⟨ad122, A122_2, c122_2, e122, hx122_0, hx122_1, hx122_2, hl122_2, hi122_2⟩ := at_T24 HR0_2.out x4_1 p122 q122
       cases e122
       replace hx122_0 := (HB.out.cell (World.block_lt_of_cell? w _ hx122_0)).trans hx122_0
       replace hx122_1 := (HB.out.cell (World.block_lt_of_cell? w _ hx122_1)).trans hx122_1
       replace hx122_2 := (HB.out.cell (World.block_lt_of_cell? w _ hx122_2)).trans hx122_2
       have HR122_2 := Aside0.mk hi122_2
       have HC122_2 := Aside0.mk hl122_2
       clear hi122_2 hl122_2
       replace p122 := eq_true p122
       replace q122 := eq_true q122
       have p6 : 0 ≤ (0 : Int) := (by omega)
       have q6 : 0 < ((rd_T24 l0_2 x4_1).f0).size := (by have : (0 : Int) < (((rd_T24 l0_2 x4_1).f0).size : Int) := of_decide_eq_true (by first | (with_reducible assumption) | assumption); omega)
       have hx6 : ∀ h : 0 < ((rd_T24 l0_2 x4_1).f0).size, ((((rd_T24 l0_2 x4_1).f0)[0]'h).toNat : Int) = bt ((rd_T24 l0_2 x4_1).f0) 0 := bt_at ((rd_T24 l0_2 x4_1).f0) 0
       clear p6
       have qi6 : (0 < (((rd_T24 l0_2 x4_1).f0).size : Int)) = True := eq_true (of_decide_eq_true (by first | (with_reducible assumption) | assumption))
       replace q6 := eq_true q6
       go_wp2
       go_roundg k1
       case measure => have := HK1.out; omega
       case rel => exact ⟨(x3_1), (wrap64 (x4_1 + 1)), rf3, rf3, H', ⟨by have := HK1.out; omega⟩, ⟨by (with_reducible repeat (first | refine blk_drewN ?_ _ | refine blk_drew ?_ | refine blk_alloc ?_ _)); exact BK121.out⟩, ⟨by repeat (first | (with_reducible first | exact HB.out | apply below_alloc | apply pw_below_drewN | apply below_drew1 | refine below_set ?_ GE121.out) | exact HB.out)⟩⟩
     ·
      rw [if_neg c5] at H
      exact absurd H (by simp)
    ·
     rw [if_neg c4] at H
     exact absurd H (by simp)
   ·
    rw [if_neg c3] at H
    have c3b0 : decide (x4_1 < (l0_2.length : Int)) = false := decide_eq_false c3
    clear c3
    obtain rfl := Option.some.inj H
    have hcz10_0 : wr.cell? ⟨gb121, 0, none⟩ = some (.string a0_0) := (blk_cell BK121.out 0).trans rfl
    have hcz10_1 : wr.cell? ⟨gb121, 1, none⟩ = some (.string a0_1) := (blk_cell BK121.out 1).trans rfl
    have hcz10_2 : wr.cell? ⟨gb121, 2, none⟩ = some (.slice A0_2 l0_2.length c0_2) := (blk_cell BK121.out 2).trans rfl
    have hfz10_0 := blk_frozen BK121.out 0
    have hfz10_1 := blk_frozen BK121.out 1
    have hfz10_2 := blk_frozen BK121.out 2
    go_wp2
    go_ret
    exact ⟨by first | rfl | (simp [errW_none, errW_some] <;> rfl) | (simp [*, errW_none, errW_some] <;> rfl), by repeat (first | (with_reducible first | exact HB.out | apply below_alloc | apply pw_below_drewN | apply below_drew1 | refine below_set ?_ GE121.out) | exact HB.out)⟩
end Go.Proofs.YtknfpggiigncpaaGreatDoor.E
end
section
namespace Go.Proofs.YtknfpggiigncpaaGreatDoor.P
def headB (l : List Oper) : Bool :=
 Region.noSelect l.toArray && (Region.ready .any l.toArray (Array.replicate l.length false) == [0]) && (Region.ready .any l.toArray ((Array.replicate l.length false).setIfInBounds 0 true) == [1])
  && Region.lexFrom .any l.toArray (l.length - 2) 2 (((Array.replicate l.length false).setIfInBounds 0 true).setIfInBounds 1 true)
theorem wp_region_head {P : Program} {id : Nat} {Q : Exit → Act → World → Prop} {a : Act} {w : World} {o0 o1 : Oper} {l : List Oper} (hm : P.follows .mixedOrders = true) (hB : headB (o0 :: o1 :: l) = true)
  (hw0 : o0.guard = none) (hw1 : o1.guard = none)
  (h : o0.wp P a { w with drawn := w.drawn + 1 } (fun a1 w1 => o1.wp P a1 w1 (fun a2 w2 => wpQuiet P (o0 :: o1 :: l).toArray (fun w' => ∃ n, w' = w2.drewN n) (fun a' => ∀ w', (∃ n, w' = w2.drewN n) → Q .normal a' w') l a2) Q) Q) :
  (Code.region id (o0 :: o1 :: l).toArray true).wp P Q a w := by
 unfold headB at hB
 simp only [Bool.and_eq_true, beq_iff_eq] at hB
 obtain ⟨⟨⟨hs, hr0⟩, hr1⟩, hlex⟩ := hB
 refine wp_region_any hm ?_
 have hsz : (o0 :: o1 :: l).toArray.size = l.length + 1 + 1 := by simp
 rw [hsz]
 rw [show (o0 :: o1 :: l).length = l.length + 1 + 1 from rfl] at hr0 hr1 hlex
 refine wpAny_ready (rs := [0]) hr0 (by simp) (AllReady.cons (i := 0) (o := o0) (by simp) (fun K' hK => ?_) AllReady.nil)
 have w0 : ∀ y, Region.wanted o0 y = true := fun y => by unfold Region.wanted; rw [hw0]
 have w1' : ∀ y, Region.wanted o1 y = true := fun y => by unfold Region.wanted; rw [hw1]
 rw [if_pos (w0 _)]
 refine Oper.wp_mono (fun a1 w1 h1 => hK _ _ ?_) h
 refine wpAny_ready (rs := [1]) hr1 (by simp) (AllReady.cons (i := 1) (o := o1) (by simp) (fun K1 hK1 => ?_) AllReady.nil)
 rw [if_pos (w1' _)]
 refine Oper.wp_mono (fun a2 w2 h2 => hK1 _ _ ?_) h1
 refine wpAny_of_quiet (C := fun w' => ∃ n, w' = w2.drewN n) (Q := fun a' => ∀ w', (∃ n, w' = w2.drewN n) → Q .normal a' w') (fun _ w' hw' h => h w' hw') _ _ _ _ ⟨0, rfl⟩ ?_
 refine wpAnyQ_lex hs l 2 _ a2 (fun j => ?_) (by simpa using hlex) h2
 simp [show 2 + j = j + 1 + 1 by omega]
end Go.Proofs.YtknfpggiigncpaaGreatDoor.P
end
