/- The law TokenBetween, walked. -/
import Derived.Test.YtknfpggiigncpaaGreatDoorTb2
import Derived.Test.YtknfpggiigncpaaGreatDoorTb3
import Derived.Test.YtknfpggiigncpaaGreatDoorRt3
import Derived.Test.YtknfpggiigncpaaGreatDoorRt8
import Derived.Deep.RegionHeld3
set_option linter.unusedVariables false
set_option linter.unusedSimpArgs false
namespace Go.Proofs.YtknfpggiigncpaaGreatDoor.C
open Go.RowKit Go.Proofs.YtknfpggiigncpaaGreatDoor.P Go.Proofs.YtknfpggiigncpaaGreatDoorW.PrintWords Go.Proofs.YtknfpggiigncpaaGreatDoorW.PrintLast Go.Proofs.YtknfpggiigncpaaGreatDoorW.PrintMore

def Box44 (w : World) (g : Nat) (x : S44) (A : Option Addr) (c : Nat) : Prop := w.heap[g]? = some (.cells #[.int .u8 x.f0, .string x.f1, .string x.f2, .slice A x.f3.length c, .bool x.f4, .int .i64 x.f5] 44 (0, 0))
def Three (w w2 : World) (gx gy gz : Nat) (x y : S44) (A3 B3 : Option Addr) (c3 d3 : Nat) : Prop :=
  Box44 w2 gx x A3 c3 ∧ Box44 w2 gy y B3 d3 ∧ Box44 w2 gz ⟨0, ⟨#[]⟩, ⟨#[]⟩, [], false, 0⟩ none 0 ∧ gx ≠ gy ∧ gx ≠ gz ∧ gy ≠ gz ∧ w.heap.size ≤ gx ∧ w.heap.size ≤ gy ∧ w.heap.size ≤ gz ∧ Below w.heap.size w w2
theorem reg_three {P : Program} {c : Code} {K : Act → World → Prop} {E : Exit → Act → World → Prop} {a : Act} {w : World} (F : Act → Nat → Nat → Nat → Act) (T : World → Nat → Nat → Nat → Prop)
    (h : (∀ gx gy gz w', T w' gx gy gz → Exit.then K E .normal (F a gx gy gz) w') → Code.wp P c (Exit.then K E) a w)
    (hK : ∀ w' gx gy gz, T w' gx gy gz → Exit.then K E .normal (F a gx gy gz) w') : Code.wp P c (Exit.then K E) a w :=
  h fun gx gy gz w' => hK w' gx gy gz
def updG (i l c0 c1 : Nat) (ad bd : Addr) (vx vy vz : Value) (a : Act) (gx gy gz : Nat) : Act :=
  ⟨(((((((((((a.tmps.setIfInBounds 146 (.slice (some ad) l c0)).setIfInBounds 147 (.int .i64 i)).setIfInBounds 148 (.pointer (some (ad.add (i * 6))))).setIfInBounds 149 vx).setIfInBounds 150 (.slice (some bd) l c1)).setIfInBounds 151 (.int .i64 i)).setIfInBounds 152 (.pointer (some (bd.add (i * 6))))).setIfInBounds 153 vy).setIfInBounds 154 vz).setIfInBounds 19 (.pointer (some ⟨gx, 0, none⟩))).setIfInBounds 20 (.pointer (some ⟨gy, 0, none⟩))).setIfInBounds 21 (.pointer (some ⟨gz, 0, none⟩)), a.defers⟩
theorem below_p {n : Nat} {w W : World} {p : Addr} {v : Value} (hB : Below n w W) (hx : w.cell? p = some v) (h : p.block < n) : W.cell? p = some v := (hB.cell h).trans hx
theorem new_cell (W : World) (c : Array Value) (t : TypeId) (b : Nat) (hb : W.heap.size = b) (i : Nat) : (W.alloc (.cells c t)).cell? ⟨b, i, none⟩ = c[i]? ∧ (W.alloc (.cells c t)).frozen? ⟨b, i, none⟩ = false := by
  subst hb
  exact ⟨cell_of_row _ _ _ _ _ _ (cells_alloc W c t), frozen_of_row _ _ _ _ _ (cells_alloc W c t)⟩
theorem six_row3 (W : World) (b : Nat) (v0 v1 v2 v3 v4 v5 u0 u1 u2 u3 u4 u5 : Value) (t : TypeId) (hb : W.heap.size = b) :
    (((((((W.alloc (.cells #[u0, u1, u2, u3, u4, u5] t)).setCell ⟨b, 0, none⟩ v0).setCell ⟨b, 1, none⟩ v1).setCell ⟨b, 2, none⟩ v2).setCell ⟨b, 3, none⟩ v3).setCell ⟨b, 4, none⟩ v4).setCell ⟨b, 5, none⟩ v5).heap[b]? = some (.cells #[v0, v1, v2, v3, v4, v5] t (0, 0)) := by
  subst hb
  exact heap_setCell_same _ _ 5 _ _ v5 (heap_setCell_same _ _ 4 _ _ v4 (heap_setCell_same _ _ 3 _ _ v3 (heap_setCell_same _ _ 2 _ _ v2 (heap_setCell_same _ _ 1 _ _ v1 (heap_setCell_same _ _ 0 _ _ v0 (cells_alloc W _ t))))))
theorem below63 {w W : World} {n b : Nat} (v0 v1 v2 v3 v4 v5 : Value) (h : Below n w W) (hb : n ≤ b) :
    Below n w ((((((W.setCell ⟨b, 0, none⟩ v0).setCell ⟨b, 1, none⟩ v1).setCell ⟨b, 2, none⟩ v2).setCell ⟨b, 3, none⟩ v3).setCell ⟨b, 4, none⟩ v4).setCell ⟨b, 5, none⟩ v5) :=
  (((((h.setCell (p := ⟨b, 0, none⟩) hb _).setCell (p := ⟨b, 1, none⟩) hb _).setCell (p := ⟨b, 2, none⟩) hb _).setCell (p := ⟨b, 3, none⟩) hb _).setCell (p := ⟨b, 4, none⟩) hb _).setCell (p := ⟨b, 5, none⟩) hb _
theorem two_more (w X : World) (n : Nat) (c d1 d2 : Array Value) (h : X.heap[n]? = some (.cells c 44 (0, 0))) (s1 : X.heap.size = n + 1) (hB : Below n w X) :
    ((X.alloc (.cells d1 44)).alloc (.cells d2 44)).heap[n]? = some (.cells c 44 (0, 0)) ∧ ((X.alloc (.cells d1 44)).alloc (.cells d2 44)).heap[n + 1]? = some (.cells d1 44 (0, 0)) ∧ ((X.alloc (.cells d1 44)).alloc (.cells d2 44)).heap[n + 1 + 1]? = some (.cells d2 44 (0, 0)) ∧ Below n w ((X.alloc (.cells d1 44)).alloc (.cells d2 44)) := by
  have s2 : (X.alloc (.cells d1 44)).heap.size = n + 1 + 1 := by simp [s1]
  refine ⟨?_, ?_, ?_, (hB.alloc (by rw [s1]; omega) _).alloc (by rw [s2]; omega) _⟩
  · rw [Below.heap_alloc _ _ _ (by rw [s2]; omega), Below.heap_alloc _ _ _ (by rw [s1]; omega)]
    exact h
  · rw [Below.heap_alloc _ _ _ (by rw [s2]; omega), ← s1]
    exact cells_alloc X d1 44
  · rw [← s2]
    exact cells_alloc _ d2 44
theorem three_rows (w : World) (n : Nat) (v0 v1 v2 v3 v4 v5 : Value) (d1 d2 : Array Value) :
    let W := ((((((((((w.drewN n).alloc (.cells #[.int .u8 0, .string ⟨#[]⟩, .string ⟨#[]⟩, .slice none 0 0, .bool false, .int .i64 0] 44)).setCell ⟨w.heap.size, 0, none⟩ v0).setCell ⟨w.heap.size, 1, none⟩ v1).setCell ⟨w.heap.size, 2, none⟩ v2).setCell ⟨w.heap.size, 3, none⟩ v3).setCell ⟨w.heap.size, 4, none⟩ v4).setCell ⟨w.heap.size, 5, none⟩ v5).alloc (.cells d1 44)).alloc (.cells d2 44))
    W.heap[w.heap.size]? = some (.cells #[v0, v1, v2, v3, v4, v5] 44 (0, 0)) ∧ W.heap[w.heap.size + 1]? = some (.cells d1 44 (0, 0)) ∧ W.heap[w.heap.size + 1 + 1]? = some (.cells d2 44 (0, 0)) ∧ Below w.heap.size w W :=
  two_more w _ w.heap.size _ d1 d2 (six_row3 (w.drewN n) w.heap.size v0 v1 v2 v3 v4 v5 _ _ _ _ _ _ 44 (by simp)) (by simp) (below63 _ _ _ _ _ _ (below_alloc (pw_below_drewN (Below.refl _ _) n) _) (Nat.le_refl _))
theorem rd_left (la lb : List S44) (i : Nat) (h : i < la.length) : rd_T44 (la ++ lb) (i : Int) = rd_T44 la (i : Int) := by
  unfold rd_T44
  rw [Int.toNat_natCast, List.getD_eq_getElem?_getD, List.getD_eq_getElem?_getD, List.getElem?_append_left h]
theorem rd_right (n : Nat) (la lb : List S44) (i : Nat) (h : la.length ≤ i) (h2 : i < la.length + lb.length) : rd_T44 (la ++ lb.map (mvT n)) (i : Int) = mvT n (rd_T44 lb ((i - la.length : Nat) : Int)) := by
  unfold rd_T44
  rw [Int.toNat_natCast, Int.toNat_natCast, List.getD_eq_getElem?_getD, List.getD_eq_getElem?_getD, List.getElem?_append_right h]
  simp [show i - la.length < lb.length by omega]
theorem rd_mem (l : List S44) (i : Nat) (h : i < l.length) : rd_T44 l (i : Int) ∈ l := by
  unfold rd_T44
  rw [Int.toNat_natCast, List.getD_eq_getElem?_getD, List.getElem?_eq_getElem h]
  exact List.getElem_mem h
theorem below_q {w W : World} {p : Addr} {v : Value} (hB : Below w.heap.size w W) (hx : w.cell? p = some v) : W.cell? p = some v := (hB.cell (World.block_lt_of_cell? w _ hx)).trans hx
theorem C_keep {w W : World} {A : Option Addr} {n : Nat} {xs : List S77} (hb : Below w.heap.size w W) (h : Kd.C k77 w A n xs) : Kd.C k77 W A n xs := Kd.C_below h hb
theorem below_r {v w W : World} (hb : Below w.heap.size w W) (h : Below v.heap.size v w) : Below v.heap.size v W := h.trans (hb.mono h.size)
theorem box_far {w : World} {g b : Nat} {o : Option Obj} (hne : b ≠ g) (h : w.heap[g]? = o) {v0 v1 v2 v3 v4 v5 : Value} : ((((((w.setCell ⟨b, 0, none⟩ v0).setCell ⟨b, 1, none⟩ v1).setCell ⟨b, 2, none⟩ v2).setCell ⟨b, 3, none⟩ v3).setCell ⟨b, 4, none⟩ v4).setCell ⟨b, 5, none⟩ v5).heap[g]? = o := by
  have key : ∀ (W : World) (i : Nat) (v : Value), (W.setCell ⟨b, i, none⟩ v).heap[g]? = W.heap[g]? := fun W i v => Below.heap_setCell W ⟨b, i, none⟩ v g (fun e => hne e.symm)
  rw [key, key, key, key, key, key, h]
theorem row6 {w : World} {g : Nat} {u0 u1 u2 u3 u4 u5 : Value} {t : TypeId} (h : w.heap[g]? = some (.cells #[u0, u1, u2, u3, u4, u5] t (0, 0))) (v0 v1 v2 v3 v4 v5 : Value) :
    ((((((w.setCell ⟨g, 0, none⟩ v0).setCell ⟨g, 1, none⟩ v1).setCell ⟨g, 2, none⟩ v2).setCell ⟨g, 3, none⟩ v3).setCell ⟨g, 4, none⟩ v4).setCell ⟨g, 5, none⟩ v5).heap[g]? = some (.cells #[v0, v1, v2, v3, v4, v5] t (0, 0)) :=
  heap_setCell_same _ _ 5 _ _ v5 (heap_setCell_same _ _ 4 _ _ v4 (heap_setCell_same _ _ 3 _ _ v3 (heap_setCell_same _ _ 2 _ _ v2 (heap_setCell_same _ _ 1 _ _ v1 (heap_setCell_same _ _ 0 _ _ v0 h)))))
theorem row_bd : ∀ (l : List S44) (lo hi : Int), Row lo hi l → ∀ t ∈ l, lo ≤ t.f5 ∧ t.f5 + 1 ≤ hi
  | [], lo, hi, _, t, ht => by cases ht
  | u :: l, lo, hi, hr, t, ht => by
    rcases List.mem_cons.1 ht with rfl | ht
    · have : ∀ (l : List S44) (lo hi : Int), Row lo hi l → lo ≤ hi := by
        intro l
        induction l with
        | nil => intro lo hi h; exact h
        | cons v l ih => intro lo hi h; have := ih _ _ h.2; have := h.1; omega
      exact ⟨hr.1, this l _ _ hr.2⟩
    · have := row_bd l _ hi hr.2 t ht
      have := hr.1
      omega
theorem row_lt : ∀ (l : List S44) (lo hi : Int), Row lo hi l → ∀ i, i + 1 < l.length → (rd_T44 l (i : Int)).f5 < (rd_T44 l ((i + 1 : Nat) : Int)).f5
  | [], _, _, _, i, h => by simp at h
  | [x], _, _, _, i, h => by simp at h
  | x :: y :: l, lo, hi, hr, 0, h => by
    have h1 := hr.2.1
    have e1 : rd_T44 (x :: y :: l) ((0 : Nat) : Int) = x := rfl
    have e2 : rd_T44 (x :: y :: l) ((0 + 1 : Nat) : Int) = y := rfl
    rw [e1, e2]
    omega
  | x :: y :: l, lo, hi, hr, i + 1, h => by
    have := row_lt (y :: l) _ hi hr.2 i (by simpa using h)
    have e1 : rd_T44 (x :: y :: l) ((i + 1 : Nat) : Int) = rd_T44 (y :: l) (i : Int) := by unfold rd_T44; rw [Int.toNat_natCast, Int.toNat_natCast]; rfl
    have e2 : rd_T44 (x :: y :: l) ((i + 1 + 1 : Nat) : Int) = rd_T44 (y :: l) ((i + 1 : Nat) : Int) := by unfold rd_T44; rw [Int.toNat_natCast, Int.toNat_natCast]; rfl
    rw [e1, e2]
    exact this
theorem lt_of (t : ByteArray) (h : 0 < t.size) (h60 : t[0]'h = 60) : LtX t.data.toList := by
  have : t.data.toList = (t[0]'h) :: rs t 1 := by
    have := List.drop_eq_getElem_cons (l := t.data.toList) (i := 0) (by rw [← Lib.size_eq]; exact h)
    rw [List.drop_zero] at this
    exact this
  rw [this, h60]
  exact .inr ⟨_, rfl⟩
end Go.Proofs.YtknfpggiigncpaaGreatDoor.C
