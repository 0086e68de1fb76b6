/- A map that a call makes and fills while it makes other things: over any program. -/
import Derived.WalkKit
import Derived.Test.YtepphihcggppbaaDoorMapLit
set_option linter.unusedVariables false
set_option linter.unusedSimpArgs false
namespace Go.Proofs.MapLit
variable {κ : Type} [DecidableEq κ] {kind : TypeDesc} {enc : κ → Value}
def mapB (enc : κ → Value) (W : World) (b : Nat) (kvs : List (κ × Value)) : Prop := W.heap[b]? = some (.map (entries enc kvs).toArray kvs.length)
def mapPut (enc : κ → Value) (W : World) (b : Nat) (kvs : List (κ × Value)) : World := { W with heap := W.heap.setIfInBounds b (.map (entries enc kvs).toArray kvs.length) }
/-- 'm[k] = v', a key that is new. -/
theorem run_insertAt (K : KeyAs κ kind enc) {P : Program} {T kt et : TypeId} (hT : P.underlying T = some (.map kt et)) (hk : P.underlying kt = some kind) (k : κ) (v : Value) (kvs : List (κ × Value)) (hn : ∀ x ∈ kvs, x.1 ≠ k)
    (W : World) (b : Nat) (hb : mapB enc W b kvs) : (Instr.mapUpdate T (.map (some b)) (enc k) v).run P W = .ok () (mapPut enc W b (kvs ++ [(k, v)])) := by
  obtain ⟨r, h1, -, h3⟩ := run_find K hk k kvs W
  obtain rfl := h3 hn
  unfold mapB at hb
  simp only [Instr.mapUpdate, run_underlying hT, Sem.run_bind, Result.andThen, getObj, Sem.run, hb, K.check P _ kt k _ hk, h1, setObj]
  simp [mapPut, entries, List.zipIdx_append]
omit [DecidableEq κ] in
theorem mapPut_at {W : World} {b : Nat} {kvs : List (κ × Value)} (hb : mapB enc W b kvs) (kvs' : List (κ × Value)) : mapB enc (mapPut enc W b kvs') b kvs' := by
  have := (Array.getElem?_eq_some_iff.1 hb).1
  show (W.heap.setIfInBounds b _)[b]? = _
  rw [Array.getElem?_setIfInBounds_self]
  simp [this]
omit [DecidableEq κ] in
theorem mapPut_size (W : World) (b : Nat) (kvs : List (κ × Value)) : (mapPut enc W b kvs).heap.size = W.heap.size := by
  show (W.heap.setIfInBounds b _).size = _
  simp
omit [DecidableEq κ] in
theorem mapPut_other (W : World) (b : Nat) (kvs : List (κ × Value)) (i : Nat) (h : i ≠ b) : (mapPut enc W b kvs).heap[i]? = W.heap[i]? := by
  show (W.heap.setIfInBounds b _)[i]? = _
  rw [Array.getElem?_setIfInBounds_ne (fun e => h e.symm)]
theorem wpList_insertAt (K : KeyAs κ kind enc) {P : Program} (w : World) {ops : Array Oper} {rest : List Oper} {o : Oper} {a : Act} {Q : Exit → Act → World → Prop}
    (hg : o.guard = none) (m x v : Operand) (T kt et : TypeId) (hop : o.op = Op.insert T m x v) (hT : P.underlying T = some (.map kt et)) (hk : P.underlying kt = some kind) (k : κ) (val : Value) (kvs : List (κ × Value)) (hn : ∀ y ∈ kvs, y.1 ≠ k)
    (b : Nat) (hm : a.eval m = .map (some b)) (hb : mapB enc w b kvs) (hx : a.eval x = enc k) (hv : a.eval v = val)
    (hK : wpList P ops Q rest (a.put o.dst undef) (mapPut enc w b (kvs ++ [(k, val)]))) : wpList P ops Q (o :: rest) a w := by
  refine wpList_plain hg fun K' hK' => ?_
  have hrun := run_insertAt K hT hk k val kvs hn w b hb
  unfold Oper.wp
  simp [execOp, hop, hm, hx, hv, hrun, Result.andThen]
  exact hK' _ _ hK
end Go.Proofs.MapLit
