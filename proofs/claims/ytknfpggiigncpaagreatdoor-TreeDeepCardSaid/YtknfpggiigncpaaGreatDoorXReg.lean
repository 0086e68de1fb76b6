/- A region that draws its order, whose first two operations are forced (a slot, then a call that may write), and whose other operations read alone: one walk serves every order. Condition: the closed facts on its edges. -/
import Derived.Deep.Quiet
import Derived.Deep.QuietTactic
import Derived.RegionTactic
namespace Go.Proofs.YtknfpggiigncpaaGreatDoor.P

def headB (l : List Oper) : Bool :=
  Region.noSelect l.toArray && (Region.ready .any l.toArray (Array.replicate l.length false) == [0]) && (Region.ready .any l.toArray ((Array.replicate l.length false).setIfInBounds 0 true) == [1])
    && Region.lexFrom .any l.toArray (l.length - 2) 2 (((Array.replicate l.length false).setIfInBounds 0 true).setIfInBounds 1 true)
theorem wp_region_head {P : Program} {id : Nat} {Q : Exit → Act → World → Prop} {a : Act} {w : World} {o0 o1 : Oper} {l : List Oper} (hm : P.follows .mixedOrders = true) (hB : headB (o0 :: o1 :: l) = true)
    (hw0 : o0.guard = none) (hw1 : o1.guard = none)
    (h : o0.wp P a { w with drawn := w.drawn + 1 } (fun a1 w1 => o1.wp P a1 w1 (fun a2 w2 => wpQuiet P (o0 :: o1 :: l).toArray (fun w' => ∃ n, w' = w2.drewN n) (fun a' => ∀ w', (∃ n, w' = w2.drewN n) → Q .normal a' w') l a2) Q) Q) :
    (Code.region id (o0 :: o1 :: l).toArray true).wp P Q a w := by
  unfold headB at hB
  simp only [Bool.and_eq_true, beq_iff_eq] at hB
  obtain ⟨⟨⟨hs, hr0⟩, hr1⟩, hlex⟩ := hB
  refine wp_region_any hm ?_
  have hsz : (o0 :: o1 :: l).toArray.size = l.length + 1 + 1 := by simp
  rw [hsz]
  rw [show (o0 :: o1 :: l).length = l.length + 1 + 1 from rfl] at hr0 hr1 hlex
  refine wpAny_ready (rs := [0]) hr0 (by simp) (AllReady.cons (i := 0) (o := o0) (by simp) (fun K' hK => ?_) AllReady.nil)
  have w0 : ∀ y, Region.wanted o0 y = true := fun y => by unfold Region.wanted; rw [hw0]
  have w1' : ∀ y, Region.wanted o1 y = true := fun y => by unfold Region.wanted; rw [hw1]
  rw [if_pos (w0 _)]
  refine Oper.wp_mono (fun a1 w1 h1 => hK _ _ ?_) h
  refine wpAny_ready (rs := [1]) hr1 (by simp) (AllReady.cons (i := 1) (o := o1) (by simp) (fun K1 hK1 => ?_) AllReady.nil)
  rw [if_pos (w1' _)]
  refine Oper.wp_mono (fun a2 w2 h2 => hK1 _ _ ?_) h1
  refine wpAny_of_quiet (C := fun w' => ∃ n, w' = w2.drewN n) (Q := fun a' => ∀ w', (∃ n, w' = w2.drewN n) → Q .normal a' w') (fun _ w' hw' h => h w' hw') _ _ _ _ ⟨0, rfl⟩ ?_
  refine wpAnyQ_lex hs l 2 _ a2 (fun j => ?_) (by simpa using hlex) h2
  simp [show 2 + j = j + 1 + 1 by omega]
end Go.Proofs.YtknfpggiigncpaaGreatDoor.P
