/- A table in a box of its own: its six cells read and written. -/
import Derived.Test.YtepphihcggppbaaDoorAx0
set_option linter.unusedVariables false
set_option linter.unusedSimpArgs false
namespace Go.Proofs.YtepphihcggppbaaDoor.A
open Go.RowKit Go.Proofs.YtepphihcggppbaaDoorW.PrintWords Go.Proofs.YtepphihcggppbaaDoorW.PrintLast Go.Proofs.YtepphihcggppbaaDoorW.PrintMore

def specV (s : S24) (v : Value) : Value := .agg #[.string s.f0, .int .i64 s.f1, .int .i64 s.f2, .string s.f3, v, .bool s.f5]
def specC (s : S24) (v : Value) : Array Value := #[.string s.f0, .int .i64 s.f1, .int .i64 s.f2, .string s.f3, v, .bool s.f5]
/-- The box of a table. -/
def Sbox (W : World) (g : Nat) (s : S24) (v : Value) : Prop := W.heap[g]? = some (.cells (specC s v) 24 (0, 0))
theorem Sbox.cells {W : World} {g : Nat} {s : S24} {v : Value} (h : Sbox W g s v) :
    W.cell? ⟨g, 0, none⟩ = some (.string s.f0) ∧ W.cell? ⟨g, 1, none⟩ = some (.int .i64 s.f1) ∧ W.cell? ⟨g, 2, none⟩ = some (.int .i64 s.f2) ∧ W.cell? ⟨g, 3, none⟩ = some (.string s.f3) ∧ W.cell? ⟨g, 4, none⟩ = some v ∧ W.cell? ⟨g, 5, none⟩ = some (.bool s.f5) :=
  ⟨blk_cell h 0, blk_cell h 1, blk_cell h 2, blk_cell h 3, blk_cell h 4, blk_cell h 5⟩
theorem Sbox.frozen {W : World} {g : Nat} {s : S24} {v : Value} (h : Sbox W g s v) :
    W.frozen? ⟨g, 0, none⟩ = false ∧ W.frozen? ⟨g, 1, none⟩ = false ∧ W.frozen? ⟨g, 2, none⟩ = false ∧ W.frozen? ⟨g, 3, none⟩ = false ∧ W.frozen? ⟨g, 4, none⟩ = false ∧ W.frozen? ⟨g, 5, none⟩ = false :=
  ⟨frozen_of_row _ _ 0 _ _ h, frozen_of_row _ _ 1 _ _ h, frozen_of_row _ _ 2 _ _ h, frozen_of_row _ _ 3 _ _ h, frozen_of_row _ _ 4 _ _ h, frozen_of_row _ _ 5 _ _ h⟩
theorem Sbox.low {W W' : World} {g n : Nat} {s : S24} {v : Value} (h : Sbox W g s v) (hb : Below n W W') (hn : g < n) : Sbox W' g s v := (hb.block g hn).trans h
theorem Sbox.lt {W : World} {g : Nat} {s : S24} {v : Value} (h : Sbox W g s v) : g < W.heap.size := (Array.getElem?_eq_some_iff.1 h).1
theorem Sbox.new (W : World) (s : S24) (v : Value) : Sbox (W.alloc (.cells (specC s v) 24)) W.heap.size s v := by
  show (W.heap.push _)[W.heap.size]? = _
  simp
/-- All six cells written. -/
def put6 (W : World) (g : Nat) (s : S24) (v : Value) : World := (((((W.setCell ⟨g, 0, none⟩ (.string s.f0)).setCell ⟨g, 1, none⟩ (.int .i64 s.f1)).setCell ⟨g, 2, none⟩ (.int .i64 s.f2)).setCell ⟨g, 3, none⟩ (.string s.f3)).setCell ⟨g, 4, none⟩ v).setCell ⟨g, 5, none⟩ (.bool s.f5)
theorem put6_box {W : World} {g : Nat} {s0 : S24} {v0 : Value} (h : Sbox W g s0 v0) (s : S24) (v : Value) : Sbox (put6 W g s v) g s v := by
  unfold put6
  exact blk_put (blk_put (blk_put (blk_put (blk_put (blk_put h 0 _ rfl) 1 _ rfl) 2 _ rfl) 3 _ rfl) 4 _ rfl) 5 _ rfl
theorem put6_other (W : World) (g : Nat) (s : S24) (v : Value) (k : Nat) (hk : k ≠ g) : (put6 W g s v).heap[k]? = W.heap[k]? := by
  unfold put6
  rw [Below.heap_setCell _ ⟨g, 5, none⟩ _ k hk, Below.heap_setCell _ ⟨g, 4, none⟩ _ k hk, Below.heap_setCell _ ⟨g, 3, none⟩ _ k hk, Below.heap_setCell _ ⟨g, 2, none⟩ _ k hk, Below.heap_setCell _ ⟨g, 1, none⟩ _ k hk, Below.heap_setCell _ ⟨g, 0, none⟩ _ k hk]
theorem put6_size (W : World) (g : Nat) (s : S24) (v : Value) : (put6 W g s v).heap.size = W.heap.size := by
  unfold put6
  simp [World.setCell]
theorem put6_below {n : Nat} {w W : World} (h : Below n w W) (g : Nat) (hg : n ≤ g) (s : S24) (v : Value) : Below n w (put6 W g s v) := by
  unfold put6
  exact (((((h.setCell (p := ⟨g, 0, none⟩) hg _).setCell (p := ⟨g, 1, none⟩) hg _).setCell (p := ⟨g, 2, none⟩) hg _).setCell (p := ⟨g, 3, none⟩) hg _).setCell (p := ⟨g, 4, none⟩) hg _).setCell (p := ⟨g, 5, none⟩) hg _
theorem info24 : (Tryd.prog.info? 24).map (fun i => (i.zero, i.size, i.bytes)) = some (some (.agg #[.string ⟨#[]⟩, .int .i64 0, .int .i64 0, .string ⟨#[]⟩, .slice none 0 0, .bool false]), 6, 80) := by kernel_rfl
theorem und22 : Tryd.prog.underlying 22 = some (.slice 24) := Tryd.underlying22
end Go.Proofs.YtepphihcggppbaaDoor.A
