/- field.formats: the map that it makes, walked by hand. -/
import Derived.Test.YtepphihcggppbaaDoorMapAt
import Derived.Test.YtepphihcggppbaaDoorProg
import Derived.Test.YtepphihcggppbaaDoorChecked
import Derived.Lib.Hide
set_option linter.unusedVariables false
set_option linter.unusedSimpArgs false
namespace Go.Proofs.YtepphihcggppbaaDoor.F
open Go.RowKit Go.Proofs.MapLit

inductive All2 {α β : Type} (R : α → β → Prop) : List α → List β → Prop
  | nil : All2 R [] []
  | cons {a : α} {b : β} {l : List α} {m : List β} : R a b → All2 R l m → All2 R (a :: l) (b :: m)
/-- A part of a format. -/
structure PT where
  nm : ByteArray
  how : Int
  n : Int
  leaf : ByteArray
  least : Int
  most : Int
  deriving DecidableEq
def fmts : List (ByteArray × List PT) := [
  (⟨#[50, 48]⟩, [⟨⟨#[82, 101, 102]⟩, 5, 0, ⟨#[114, 101, 102]⟩, 1, 1⟩]),
  (⟨#[50, 49]⟩, [⟨⟨#[82, 101, 102]⟩, 5, 0, ⟨#[114, 101, 102]⟩, 1, 1⟩]),
  (⟨#[50, 53]⟩, [⟨⟨#[65, 99, 99, 111, 117, 110, 116]⟩, 5, 0, ⟨#[97, 99, 99, 111, 117, 110, 116]⟩, 1, 1⟩]),
  (⟨#[51, 48]⟩, [⟨⟨#[68, 97, 121]⟩, 5, 0, ⟨#[100, 97, 121]⟩, 1, 1⟩]),
  (⟨#[53, 57]⟩, [⟨⟨#[65, 99, 99, 111, 117, 110, 116]⟩, 6, 0, ⟨#[97, 99, 99, 111, 117, 110, 116]⟩, 0, 1⟩, ⟨⟨#[76, 105, 110, 101]⟩, 7, 4, ⟨#[112, 97, 114, 116, 121, 51, 53]⟩, 1, 4⟩]),
  (⟨#[54, 49]⟩, [⟨⟨#[68, 97, 121]⟩, 1, 6, ⟨#[100, 97, 121]⟩, 1, 1⟩, ⟨⟨#[77, 97, 114, 107]⟩, 1, 1, ⟨#[111, 110, 101, 58, 67, 124, 68]⟩, 1, 1⟩, ⟨⟨#[65, 109, 111, 117, 110, 116]⟩, 2, 78, ⟨#[97, 109, 111, 117, 110, 116]⟩, 1, 1⟩, ⟨⟨#[67, 111, 100, 101]⟩, 1, 3, ⟨#[111, 110, 101, 58, 84, 82, 70, 124, 67, 72, 71, 124, 73, 78, 84, 124, 77, 83, 67]⟩, 1, 1⟩, ⟨⟨#[82, 101, 102]⟩, 5, 0, ⟨#[114, 101, 102]⟩, 1, 1⟩]),
  (⟨#[54, 52]⟩, [⟨⟨#[77, 97, 114, 107]⟩, 1, 1, ⟨#[111, 110, 101, 58, 67, 124, 68]⟩, 1, 1⟩, ⟨⟨#[68, 97, 121]⟩, 1, 6, ⟨#[100, 97, 121]⟩, 1, 1⟩, ⟨⟨#[67, 99, 121]⟩, 1, 3, ⟨#[99, 99, 121]⟩, 1, 1⟩, ⟨⟨#[65, 109, 111, 117, 110, 116]⟩, 5, 0, ⟨#[97, 109, 111, 117, 110, 116]⟩, 1, 1⟩]),
  (⟨#[55, 48]⟩, [⟨⟨#[76, 105, 110, 101]⟩, 7, 4, ⟨#[108, 105, 110, 101, 51, 53]⟩, 1, 4⟩]),
  (⟨#[55, 50]⟩, [⟨⟨#[76, 105, 110, 101]⟩, 7, 6, ⟨#[108, 105, 110, 101, 51, 53]⟩, 1, 6⟩]),
  (⟨#[56, 54]⟩, [⟨⟨#[76, 105, 110, 101]⟩, 7, 6, ⟨#[108, 105, 110, 101, 54, 53]⟩, 1, 6⟩]),
  (⟨#[50, 51, 66]⟩, [⟨⟨#[67, 111, 100, 101]⟩, 5, 0, ⟨#[111, 110, 101, 58, 67, 82, 69, 68]⟩, 1, 1⟩]),
  (⟨#[50, 56, 67]⟩, [⟨⟨#[78, 111]⟩, 3, 5, ⟨#[100, 105, 103, 105, 116, 115, 53]⟩, 1, 1⟩, ⟨⟨#[83, 101, 113]⟩, 4, 0, ⟨#[100, 105, 103, 105, 116, 115, 53]⟩, 0, 1⟩]),
  (⟨#[50, 56, 68]⟩, [⟨⟨#[78, 111]⟩, 3, 5, ⟨#[100, 105, 103, 105, 116, 115, 53]⟩, 1, 1⟩, ⟨⟨#[83, 101, 113]⟩, 4, 0, ⟨#[100, 105, 103, 105, 116, 115, 53]⟩, 1, 1⟩]),
  (⟨#[51, 50, 65]⟩, [⟨⟨#[68, 97, 121]⟩, 1, 6, ⟨#[100, 97, 121]⟩, 1, 1⟩, ⟨⟨#[67, 99, 121]⟩, 1, 3, ⟨#[99, 99, 121]⟩, 1, 1⟩, ⟨⟨#[65, 109, 111, 117, 110, 116]⟩, 5, 0, ⟨#[97, 109, 111, 117, 110, 116]⟩, 1, 1⟩]),
  (⟨#[51, 50, 66]⟩, [⟨⟨#[67, 99, 121]⟩, 1, 3, ⟨#[99, 99, 121]⟩, 1, 1⟩, ⟨⟨#[65, 109, 111, 117, 110, 116]⟩, 5, 0, ⟨#[97, 109, 111, 117, 110, 116]⟩, 1, 1⟩]),
  (⟨#[51, 51, 66]⟩, [⟨⟨#[67, 99, 121]⟩, 1, 3, ⟨#[99, 99, 121]⟩, 1, 1⟩, ⟨⟨#[65, 109, 111, 117, 110, 116]⟩, 5, 0, ⟨#[97, 109, 111, 117, 110, 116]⟩, 1, 1⟩]),
  (⟨#[53, 48, 72]⟩, [⟨⟨#[65, 99, 99, 111, 117, 110, 116]⟩, 6, 0, ⟨#[97, 99, 99, 111, 117, 110, 116]⟩, 1, 1⟩, ⟨⟨#[76, 105, 110, 101]⟩, 7, 4, ⟨#[112, 97, 114, 116, 121, 51, 53]⟩, 1, 4⟩]),
  (⟨#[53, 48, 75]⟩, [⟨⟨#[65, 99, 99, 111, 117, 110, 116]⟩, 6, 0, ⟨#[97, 99, 99, 111, 117, 110, 116]⟩, 0, 1⟩, ⟨⟨#[76, 105, 110, 101]⟩, 7, 4, ⟨#[112, 97, 114, 116, 121, 51, 53]⟩, 1, 4⟩]),
  (⟨#[53, 50, 65]⟩, [⟨⟨#[66, 105, 99]⟩, 5, 0, ⟨#[98, 105, 99]⟩, 1, 1⟩]),
  (⟨#[53, 55, 65]⟩, [⟨⟨#[66, 105, 99]⟩, 5, 0, ⟨#[98, 105, 99]⟩, 1, 1⟩]),
  (⟨#[53, 56, 65]⟩, [⟨⟨#[66, 105, 99]⟩, 5, 0, ⟨#[98, 105, 99]⟩, 1, 1⟩]),
  (⟨#[54, 48, 70]⟩, [⟨⟨#[77, 97, 114, 107]⟩, 1, 1, ⟨#[111, 110, 101, 58, 67, 124, 68]⟩, 1, 1⟩, ⟨⟨#[68, 97, 121]⟩, 1, 6, ⟨#[100, 97, 121]⟩, 1, 1⟩, ⟨⟨#[67, 99, 121]⟩, 1, 3, ⟨#[99, 99, 121]⟩, 1, 1⟩, ⟨⟨#[65, 109, 111, 117, 110, 116]⟩, 5, 0, ⟨#[97, 109, 111, 117, 110, 116]⟩, 1, 1⟩]),
  (⟨#[54, 50, 70]⟩, [⟨⟨#[77, 97, 114, 107]⟩, 1, 1, ⟨#[111, 110, 101, 58, 67, 124, 68]⟩, 1, 1⟩, ⟨⟨#[68, 97, 121]⟩, 1, 6, ⟨#[100, 97, 121]⟩, 1, 1⟩, ⟨⟨#[67, 99, 121]⟩, 1, 3, ⟨#[99, 99, 121]⟩, 1, 1⟩, ⟨⟨#[65, 109, 111, 117, 110, 116]⟩, 5, 0, ⟨#[97, 109, 111, 117, 110, 116]⟩, 1, 1⟩]),
  (⟨#[55, 49, 65]⟩, [⟨⟨#[67, 111, 100, 101]⟩, 5, 0, ⟨#[111, 110, 101, 58, 79, 85, 82, 124, 83, 72, 65, 124, 66, 69, 78]⟩, 1, 1⟩])]
def cellsP (p : PT) : List Value := [.string p.nm, .int .u8 p.how, .int .i64 p.n, .string p.leaf, .int .i64 p.least, .int .i64 p.most]
def cellsL (l : List PT) : Array Value := (l.flatMap cellsP).toArray
/-- Where a format's parts lie. -/
def FRel (W : World) (kv : ByteArray × Value) (f : ByteArray × List PT) : Prop := kv.1 = f.1 ∧ ∃ g, kv.2 = .slice (some ⟨g, 0, none⟩) f.2.length f.2.length ∧ W.heap[g]? = some (.cells (cellsL f.2) 81 (0, 0))
def FmtInv (W0 W : World) (b k : Nat) : Prop := ∃ kvs, mapB Value.string W b kvs ∧ All2 (FRel W) kvs (fmts.take k) ∧ Below W0.heap.size W0 W ∧ W0.heap.size ≤ b
theorem fmts_keys : (fmts.map (·.1)).Nodup := by decide
theorem FRel.keep {W W' : World} {b : Nat} {es : Array MapEntry} {c : Nat} (hb : W.heap[b]? = some (.map es c)) (h : ∀ i, i < W.heap.size → i ≠ b → W'.heap[i]? = W.heap[i]?) {kv : ByteArray × Value} {f : ByteArray × List PT} (hr : FRel W kv f) : FRel W' kv f := by
  obtain ⟨h1, g, h2, h3⟩ := hr
  exact ⟨h1, g, h2, (h g (Array.getElem?_eq_some_iff.1 h3).1 (fun e => by subst e; rw [hb] at h3; cases h3)).trans h3⟩
theorem forall2_mono {α β : Type} {R S : α → β → Prop} (h : ∀ a b, R a b → S a b) : ∀ {l : List α} {m : List β}, All2 R l m → All2 S l m
  | _, _, .nil => .nil
  | _, _, .cons a b => .cons (h _ _ a) (forall2_mono h b)
theorem forall2_snoc {α β : Type} {R : α → β → Prop} {a : α} {b : β} (hab : R a b) : ∀ {l : List α} {m : List β}, All2 R l m → All2 R (l ++ [a]) (m ++ [b])
  | _, _, .nil => .cons hab .nil
  | _, _, .cons x y => .cons x (forall2_snoc hab y)
theorem forall2_keys {W : World} : ∀ {l : List (ByteArray × Value)} {m : List (ByteArray × List PT)}, All2 (FRel W) l m → l.map (·.1) = m.map (·.1)
  | _, _, .nil => rfl
  | _, _, .cons x y => by rw [List.map_cons, List.map_cons, x.1, forall2_keys y]
theorem fmt_step {W0 W : World} {b k : Nat} (hI : FmtInv W0 W b k) (key : ByteArray) (l : List PT) (hf : fmts[k]? = some (key, l)) (cs : Array Value) (hcs : cs = cellsL l) {ops : Array Oper} {rest : List Oper} {o : Oper} {a : Act} {Q : Exit → Act → World → Prop}
    (hg : o.guard = none) (m x v : Operand) (hop : o.op = Op.insert 69 m x v) (hm : a.eval m = .map (some b)) (hx : a.eval x = .string key) (hv : a.eval v = .slice (some ⟨W.heap.size, 0, none⟩) l.length l.length)
    (hK : ∀ W', FmtInv W0 W' b (k + 1) → wpList Tryd.prog ops Q rest (a.put o.dst undef) W') : wpList Tryd.prog ops Q (o :: rest) a (W.alloc (.cells cs 81)) := by
  obtain ⟨kvs, hb, hr, hB, hn⟩ := hI
  have hlt := (Array.getElem?_eq_some_iff.1 hb).1
  have hb1 : mapB Value.string (W.alloc (.cells cs 81)) b kvs := by
    show (W.heap.push _)[b]? = _
    rw [Array.getElem?_push, if_neg (by omega)]
    exact hb
  have hkl : k < fmts.length := (List.getElem?_eq_some_iff.1 hf).1
  have hnew : ∀ y ∈ kvs, y.1 ≠ key := by
    intro y hy e
    have h1 : key ∈ kvs.map (·.1) := e ▸ List.mem_map_of_mem hy
    rw [forall2_keys hr, List.map_take] at h1
    obtain ⟨i, hi, h2⟩ := List.mem_take_iff_getElem.1 h1
    have h3 : (fmts.map (·.1))[k]? = some key := by rw [List.getElem?_map, hf]; rfl
    have h4 : (fmts.map (·.1))[i]? = some key := by rw [List.getElem?_eq_getElem (by omega), h2]
    have := (List.getElem?_inj (by rw [List.length_map]; omega) fmts_keys).1 (h4.trans h3.symm)
    omega
  refine wpList_insertAt keyAs_string _ hg m x v 69 9 67 hop Tryd.underlying69 Tryd.underlying9 key (.slice (some ⟨W.heap.size, 0, none⟩) l.length l.length) kvs hnew b hm hb1 hx hv (hK _ ⟨kvs ++ [(key, .slice (some ⟨W.heap.size, 0, none⟩) l.length l.length)], mapPut_at hb1 _, ?_, ?_, hn⟩)
  · rw [List.take_add_one, hf]
    refine forall2_snoc ⟨rfl, W.heap.size, rfl, ?_⟩ (forall2_mono (fun a c h => h.keep hb (W' := mapPut Value.string (W.alloc (.cells cs 81)) b _) ?_) hr)
    · rw [mapPut_other _ _ _ _ (by omega), ← hcs]
      show (W.heap.push _)[W.heap.size]? = _
      simp
    · intro i hi hne
      rw [mapPut_other _ _ _ _ hne]
      show (W.heap.push _)[i]? = _
      rw [Array.getElem?_push, if_neg (by omega)]
  · have h1 := hB.alloc hB.size (.cells cs 81)
    refine h1.trans ?_
    exact ⟨rfl, rfl, rfl, by rw [mapPut_size]; exact Nat.le_refl _, fun i hi => mapPut_other _ _ _ _ (by omega)⟩
theorem fmt_start (W0 : World) : FmtInv W0 (mapW Value.string W0 []) W0.heap.size 0 := ⟨[], mapW_at W0 [], .nil, mapW_below (Below.refl _ _) (Nat.le_refl _) _, Nat.le_refl _⟩
set_option maxRecDepth 100000 in
set_option maxHeartbeats 4000000 in
theorem formats_any (w : World) : Calls Tryd.prog 33 #[] w fun e w' => e = .returned (.map (some w.heap.size)) ∧ FmtInv w w' w.heap.size 24 := by
  have hmk := mk_map (P := Tryd.prog) Value.string 69
  have hI := fmt_start w
  go_enter Tryd.func33, Tryd.ntmps33
  simp only [List.append_eq, List.cons_append, List.nil_append]
  go_wp2_with (refine fmt_step hI _ _ rfl _ rfl rfl _ _ _ rfl rfl rfl rfl ?_; clear hI; intro W' hI)

  go_ret
  exact ⟨rfl, hI⟩
end Go.Proofs.YtepphihcggppbaaDoor.F
