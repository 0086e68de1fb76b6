/- Map literals: a map that a call makes, fills key by key, and looks up: over any program. -/
import Derived.WalkKit
set_option linter.unusedVariables false
set_option linter.unusedSimpArgs false
namespace Go.Proofs.MapLit

/-- How a key stands as a value, and how two keys are compared. -/
structure KeyAs (κ : Type) [DecidableEq κ] (kind : TypeDesc) (enc : κ → Value) : Prop where
  same : ∀ a b, Instr.sameNow kind (enc a) (enc b) = some (decide (a = b))
  check : ∀ (P : Program) (e : Bool) (t : TypeId) (a : κ) (w : World), P.underlying t = some kind → (Instr.checkKey e 10000 t (enc a)).run P w = .ok () w
theorem keyAs_string : KeyAs ByteArray .string Value.string where
  same a b := by
    simp only [Instr.sameNow, Option.some.injEq]
    rw [Bool.eq_iff_iff, decide_eq_true_eq]
    show (a.data == b.data) = true ↔ _
    rw [beq_iff_eq]
    exact ⟨fun h => ByteArray.ext h, fun h => h ▸ rfl⟩
  check P e t a w h := by
    generalize hn : 9999 = n
    have e1 : (10000 : Nat) = n + 1 := by omega
    rw [e1]
    simp [Instr.checkKey, run_underlying h]
theorem keyAs_int (k : IntKind) : KeyAs Int (.int k) (Value.int k) where
  same a b := by
    simp only [Instr.sameNow, if_true, Option.some.injEq]
    rw [Bool.eq_iff_iff]
    simp
  check P e t a w h := by
    generalize hn : 9999 = n
    have e1 : (10000 : Nat) = n + 1 := by omega
    rw [e1]
    simp [Instr.checkKey, run_underlying h]

section
variable {κ : Type} [DecidableEq κ] {kind : TypeDesc} {enc : κ → Value}
/-- The entries of a list of keys and values, in the order in which they were laid. -/
def entries (enc : κ → Value) (kvs : List (κ × Value)) : List MapEntry := kvs.zipIdx.map fun x => { key := enc x.1.1, val := x.1.2, born := x.2 }
def mget (kvs : List (κ × Value)) (k : κ) : Option Value := (kvs.find? fun x => decide (k = x.1)).map (·.2)
theorem findNow_from (K : KeyAs κ kind enc) (k : κ) : ∀ (kvs : List (κ × Value)) (b i : Nat),
    (Instr.findNow kind (enc k) ((kvs.zipIdx b).map fun x => { key := enc x.1.1, val := x.1.2, born := x.2 }) i).map (·.map (·.2)) = some (mget kvs k) ∧
    ((∀ x ∈ kvs, x.1 ≠ k) → Instr.findNow kind (enc k) ((kvs.zipIdx b).map fun x => { key := enc x.1.1, val := x.1.2, born := x.2 }) i = some none)
  | [], _, _ => ⟨rfl, fun _ => rfl⟩
  | x :: r, b, i => by
    simp only [List.zipIdx_cons, List.map_cons, Instr.findNow, K.same]
    obtain ⟨ih1, ih2⟩ := findNow_from K k r (b + 1) (i + 1)
    by_cases h : k = x.1
    · refine ⟨?_, fun hn => absurd h.symm (hn x (by simp))⟩
      simp [mget, h]
    · simp only [h, decide_false]
      refine ⟨?_, fun hn => ih2 fun y hy => hn y (List.mem_cons_of_mem _ hy)⟩
      rw [ih1]
      simp [mget, h]
theorem run_find (K : KeyAs κ kind enc) {P : Program} {t : TypeId} (ht : P.underlying t = some kind) (k : κ) (kvs : List (κ × Value)) (w : World) :
    ∃ r : Option (Nat × Value), (Instr.findKey t (enc k) (entries enc kvs)).run P w = .ok r w ∧ r.map (·.2) = mget kvs k ∧ ((∀ x ∈ kvs, x.1 ≠ k) → r = none) := by
  obtain ⟨h1, h2⟩ := findNow_from K k kvs 0 0
  cases hf : Instr.findNow kind (enc k) (entries enc kvs) 0 with
  | none => unfold entries at hf; rw [hf] at h1; cases h1
  | some r =>
    refine ⟨r, ?_, ?_, ?_⟩
    · simp [Instr.findKey, run_underlying ht, hf]
    · unfold entries at hf; rw [hf] at h1; simpa using h1
    · intro hn; have := h2 hn; unfold entries at hf; rw [hf] at this; simpa using this
end
section
variable {κ : Type} {enc : κ → Value}
/-- The world in which a map literal has got so many entries. -/
def mapW (enc : κ → Value) (w : World) (kvs : List (κ × Value)) : World := w.alloc (.map (entries enc kvs).toArray kvs.length)
theorem mapW_at (w : World) (kvs : List (κ × Value)) : (mapW enc w kvs).heap[w.heap.size]? = some (.map (entries enc kvs).toArray kvs.length) := by
  show (w.heap.push _)[w.heap.size]? = _
  simp
theorem mapW_size (w : World) (kvs : List (κ × Value)) : (mapW enc w kvs).heap.size = w.heap.size + 1 := by
  show (w.heap.push _).size = _
  simp
theorem mapW_below {B : Nat} {w W : World} (h : RowKit.Below B w W) (hB : B ≤ W.heap.size) (kvs : List (κ × Value)) : RowKit.Below B w (mapW enc W kvs) := h.alloc hB _
theorem mk_map {P : Program} (enc : κ → Value) (T : TypeId) (w : World) : (Instr.makeMap T none).run P w = .ok (.map (some w.heap.size)) (mapW enc w []) := by
  rfl
end
section
variable {κ : Type} [DecidableEq κ] {kind : TypeDesc} {enc : κ → Value}
/-- 'm[k] = v' in a map literal: a key that is new. -/
theorem run_insert (K : KeyAs κ kind enc) {P : Program} {T kt et : TypeId} (hT : P.underlying T = some (.map kt et)) (hk : P.underlying kt = some kind) (k : κ) (v : Value) (kvs : List (κ × Value)) (hn : ∀ x ∈ kvs, x.1 ≠ k)
    (w : World) : (Instr.mapUpdate T (.map (some w.heap.size)) (enc k) v).run P (w.alloc (.map (entries enc kvs).toArray kvs.length)) = .ok () (w.alloc (.map (entries enc (kvs ++ [(k, v)])).toArray (kvs.length + 1))) := by
  obtain ⟨r, h1, -, h3⟩ := run_find K hk k kvs (w.alloc (.map (entries enc kvs).toArray kvs.length))
  obtain rfl := h3 hn
  have hh : (w.alloc (.map (entries enc kvs).toArray kvs.length)).heap[w.heap.size]? = some (.map (entries enc kvs).toArray kvs.length) := by
    show (w.heap.push _)[w.heap.size]? = _
    simp
  simp only [Instr.mapUpdate, run_underlying hT, Sem.run_bind, Result.andThen, getObj, Sem.run, hh, K.check P _ kt k _ hk, h1, setObj]
  congr 1
  simp only [World.alloc]
  congr 1
  apply Array.ext'
  simp [Array.setIfInBounds, entries, List.zipIdx_append]
theorem run_insertW (K : KeyAs κ kind enc) {P : Program} {T kt et : TypeId} (hT : P.underlying T = some (.map kt et)) (hk : P.underlying kt = some kind) (k : κ) (v : Value) (kvs : List (κ × Value)) (hn : ∀ x ∈ kvs, x.1 ≠ k)
    (w : World) : (Instr.mapUpdate T (.map (some w.heap.size)) (enc k) v).run P (mapW enc w kvs) = .ok () (mapW enc w (kvs ++ [(k, v)])) := by
  rw [mapW, run_insert K hT hk k v kvs hn w]
  simp [mapW]
/-- 'v, ok := m[k]'. -/
theorem run_lookup_ok (K : KeyAs κ kind enc) {P : Program} {T kt et : TypeId} (hT : P.underlying T = some (.map kt et)) (hk : P.underlying kt = some kind) (k : κ) (kvs : List (κ × Value)) (c : Nat) (z : Value)
    (hz : ∀ w : World, (zeroValue et).run P w = .ok z w) (W : World) (b : Nat) (hb : W.heap[b]? = some (.map (entries enc kvs).toArray c)) :
    (Instr.lookup T (.map (some b)) (enc k) true).run P W = .ok (.tuple #[(mget kvs k).getD z, .bool (mget kvs k).isSome]) W := by
  obtain ⟨r, h1, h2, -⟩ := run_find K hk k kvs W
  simp only [Instr.lookup, run_underlying hT, Sem.run_bind, Result.andThen, getObj, Sem.run, hb, K.check P _ kt k _ hk, h1, ← h2, Sem.run_pure]
  cases r with
  | none => simp [hz, Result.andThen]
  | some r => simp
/-- 'm[k]'. -/
theorem run_lookup (K : KeyAs κ kind enc) {P : Program} {T kt et : TypeId} (hT : P.underlying T = some (.map kt et)) (hk : P.underlying kt = some kind) (k : κ) (kvs : List (κ × Value)) (c : Nat) (z : Value)
    (hz : ∀ w : World, (zeroValue et).run P w = .ok z w) (W : World) (b : Nat) (hb : W.heap[b]? = some (.map (entries enc kvs).toArray c)) :
    (Instr.lookup T (.map (some b)) (enc k) false).run P W = .ok ((mget kvs k).getD z) W := by
  obtain ⟨r, h1, h2, -⟩ := run_find K hk k kvs W
  simp only [Instr.lookup, run_underlying hT, Sem.run_bind, Result.andThen, getObj, Sem.run, hb, K.check P _ kt k _ hk, h1, ← h2, Sem.run_pure]
  cases r with
  | none => simp [hz, Result.andThen]
  | some r => simp
end
end Go.Proofs.MapLit
