/- Colons of a name, in plain Lean: the program's split and the document's count tell the same. -/
import Derived.Test.YtknfpggiigncpaaGreatDoorTr4
import Derived.Shelf.SlMaps.Clone
set_option linter.unusedVariables false
set_option linter.unusedSimpArgs false
section
namespace Go.Proofs.YtknfpggiigncpaaGreatDoor.T
open Go.RowKit P E YtknfpggiigncpaaGreatDoorW.PrintLast YtknfpggiigncpaaGreatDoorW.PrintMore
open YtknfpggiigncpaaGreatDoorW.PrintWords
def Tryz.cloneM_ren : Go.Shelf.Ren := ⟨fun | 5 => 146 | 7 => 167 | n => n, fun | 23 => 193 | 25 => 9 | 3 => 9 | 4 => 4 | 20 => 20 | n => n, fun | n => n⟩
theorem Tryz.cloneM : Go.Proofs.SlLaysW.n5 Tryz.prog Tryz.cloneM_ren := {
 mixed := by kernel_rfl
 f5 := ⟨ "maps.Clone[map[string]string,string,string]", by kernel_rfl, Tryz.func146.trans (congrArg some (by kernel_rfl))⟩
 f7 := Tryz.func167.trans (congrArg some (by kernel_rfl))
 t4 := Tryz.underlying4
 a4 := Tryz.isAgg4
 z4 := Tryz.sizeOf4
 v4 := Tryz.zeroValue4
 t20 := Tryz.underlying20
 a20 := Tryz.isAgg20
 z20 := Tryz.sizeOf20
 v20 := Tryz.zeroValue20
 t23 := Tryz.underlying193
 a23 := Tryz.isAgg193
 z23 := Tryz.sizeOf193
 v23 := Tryz.zeroValue193
}
theorem snoc_ind {α : Type} {Pr : List α → Prop} (h0 : Pr []) (h1 : ∀ l x, Pr l → Pr (l ++ [x])) (l : List α) : Pr l := by
 have : ∀ r : List α, Pr r.reverse := by
  intro r
  induction r with
  | nil => exact h0
  | cons x r ih => rw [List.reverse_cons]; exact h1 _ _ ih
 have h := this l.reverse
 rwa [List.reverse_reverse] at h
def spGet (sp : List (List UInt8 × List UInt8)) (k : List UInt8) : Option (List UInt8) := sp.foldl (fun o x => if x.1 = k then some x.2 else o) none
theorem spD_snoc (sp : List (List UInt8 × List UInt8)) (x : List UInt8 × List UInt8) : spD (sp ++ [x]) = (spD sp).put (.string x.1) (.lit (.string x.2)) := by simp [spD, List.foldl_append]
theorem spGet_snoc (sp : List (List UInt8 × List UInt8)) (x : List UInt8 × List UInt8) (k : List UInt8) : spGet (sp ++ [x]) k = if x.1 = k then some x.2 else spGet sp k := by simp [spGet, List.foldl_append]
theorem spD_map (sp : List (List UInt8 × List UInt8)) : Maps.IsMap (spD sp) := by
 induction sp using snoc_ind with
 | h0 => exact ⟨[], rfl⟩
 | h1 l x ih =>
  rw [spD_snoc]
  obtain ⟨es, e⟩ := ih
  rw [e]
  exact ⟨_, rfl⟩
theorem sp_has (sp : List (List UInt8 × List UInt8)) (k : List UInt8) : Maps.has (spD sp) (.string k) = (spGet sp k).isSome := by
 induction sp using snoc_ind with
 | h0 => rfl
 | h1 l x ih =>
  rw [spD_snoc, spGet_snoc]
  by_cases hx : x.1 = k
  ·
   rw [if_pos hx, hx, Maps.has_put_same (spD_map l) (show WideAt.IsKeyLit (Lit.string k) from trivial)]
   rfl
  ·
   rw [if_neg hx, Maps.has_put_other (fun e => hx (by injection e with e; exact e.symm))]
   exact ih
theorem sp_at (sp : List (List UInt8 × List UInt8)) (k : List UInt8) : (spD sp).atKey (.string k) (.lit (.string [])) = .lit (.string ((spGet sp k).getD [])) := by
 induction sp using snoc_ind with
 | h0 => rfl
 | h1 l x ih =>
  rw [spD_snoc, spGet_snoc]
  by_cases hx : x.1 = k
  ·
   rw [if_pos hx, hx, Maps.atKey_put_same (spD_map l) (show WideAt.IsKeyLit (Lit.string k) from trivial)]
   rfl
  ·
   rw [if_neg hx, Maps.atKey_put_other (fun e => hx (by injection e with e; exact e.symm))]
   exact ih
set_option maxHeartbeats 4000000 in
set_option maxRecDepth 100000 in
theorem space_any (w : World) (gp gn m n0 : Nat) (sp : List (List UInt8 × List UInt8)) (p : ByteArray) (h5 : w.cell? ⟨gp, 0, none⟩ = some (.pointer (some ⟨gn, 0, none⟩))) (h4 : w.cell? ⟨gn, 4, none⟩ = some (.map (some m))) (hM : MapAt w n0 m sp) (hs : p.size ≤ 1048576) :
  Calls Tryz.prog 147 #[.string p, .pointer (some ⟨gp, 0, none⟩)] w fun e w' => e = .returned (.tuple #[.string ⟨((spGet sp p.data.toList).getD []).toArray⟩, .bool ((spGet sp p.data.toList).isSome || p.data.toList.isEmpty)]) ∧ Below w.heap.size w w' := by
 obtain ⟨_, n, _, hown⟩ := hM
 have HO := Lib.hid hown
 clear hown
 go_enter Tryz.func147, Tryz.ntmps147
 go_wp2_with (at_lookup; refine wpList_lookup_own_ok _ rfl _ _ 193 rfl 9 9 (Maps.string_keyed Tryz.underlying9) Tryz.underlying193 (plainElem Tryz.prog 9) (z := .string ⟨#[]⟩) (by rfl) (.lit (.string [])) [] (by rfl) m n (spD sp) rfl HO.out _ (.string p.data.toList) rfl (WideMaps.keyOf_string_mk Tryz.underlying9 (by unfold maxLen; omega)) ?_; intro v ps hv; obtain ⟨sv, rfl, hz, _⟩ := plainElem_string_inv Tryz.underlying9 hv; rw [sp_at] at hz; rw [sp_has])
 all_goals
  have hsv : sv = ⟨((spGet sp p.data.toList).getD []).toArray⟩ := by
   have h1 := congrArg Prod.fst hz
   simp only [DataW.lit.injEq, Lit.string.injEq] at h1
   rw [h1]
  go_ret2
  refine ⟨?_, Below.refl _ _⟩
  rw [hsv]
  first | (simp [*, Lib.toList_data]; done) | (exfalso; cases hq : spGet sp p.data.toList <;> simp_all)
def attsT : List C.S77 → List (List UInt8 × List UInt8) → List S24 → Option (List (List UInt8 × List UInt8) × List S24)
 | [], sp, ks => some (sp, ks)
 | a :: l, sp, ks =>
  if a.f0.data.toList = [120, 109, 108, 110, 115] then attsT l (sp ++ [([], a.f1.data.toList)]) ks
  else if (D.splitT a.f0.data.toList).1 = [120, 109, 108, 110, 115] ∧ (D.splitT a.f0.data.toList).2.2 = true then attsT l (sp ++ [((D.splitT a.f0.data.toList).2.1, a.f1.data.toList)]) ks
  else if (D.splitT a.f0.data.toList).1 ≠ [] ∨ (D.splitT a.f0.data.toList).2.2 = false then none
  else attsT l sp (ks ++ [⟨⟨#[64]⟩ ++ a.f0, a.f1, []⟩])
def sp0T (S : Bst) : List (List UInt8 × List UInt8) := match S.stack.getLast? with | none => [] | some nd => nd.sp
def upT (S : Bst) (inn : ByteArray) : Bst × Int :=
 match S.stack.getLast? with
 | none => ({ S with space := inn }, 0)
 | some up => ({ S with stack := S.stack.set (S.stack.length - 1) { up with hask := true } }, if blankL up.said.data.toList then 0 else 23)
def openT (S : Bst) (t : C.S44) : Bst × Int :=
 match attsT t.f3 (sp0T S) [] with
 | none => (S, 23)
 | some (sp, ks) =>
  let x := D.splitT t.f1.data.toList
  let inn : ByteArray := ⟨((spGet sp x.1).getD []).toArray⟩
  if x.2.2 = false ∨ ((spGet sp x.1).isSome || x.1.isEmpty) = false ∨ S.done = true then (S, 23)
  else if (upT S inn).2 ≠ 0 then (S, 23)
  else if inn ≠ (upT S inn).1.space then (S, 24)
  else if S.stack.length = 64 then (S, 4)
  else if S.many + ks.length + 1 > 20000 then (S, 3)
  else
   let S2 : Bst := { (upT S inn).1 with stack := (upT S inn).1.stack ++ [⟨⟨x.2.1.toArray⟩, ⟨#[]⟩, ks, t.f1, sp, ⟨#[]⟩, false⟩], many := S.many + ks.length + 1 }
   if t.f4 = true then closeT S2 t.f1 else (S2, 0)
structure Fly (W : World) (n0 b : Nat) (lab : Nat → Nat) (S : Bst) (gs : List Nat) (sv rv : Value) (gt gp gn : Nat) (tc : Array Value) (nd : Nd) : Prop where
 rep : Rep W n0 b lab S gs sv rv
 nod : NodeAt W n0 (fun k => lab k = gs.length + 1) gn nd
 new : ∀ g ∈ gs, g ≠ gn
 tok : W.heap[gt]? = some (.cells tc 44 (0, 0))
 ptr : W.heap[gp]? = some (.cells #[ptrE gn] 192 (0, 0))
 prow : some gp ≠ sv.ownBlock
theorem Fly.below {W W' : World} {n0 b : Nat} {lab : Nat → Nat} {S : Bst} {gs : List Nat} {sv rv : Value} {gt gp gn : Nat} {tc : Array Value} {nd : Nd} (h : Fly W n0 b lab S gs sv rv gt gp gn tc nd) (hb : Below W.heap.size W W') : Fly W' n0 b lab S gs sv rv gt gp gn tc nd :=
 ⟨h.rep.below hb, h.nod.grown (grown_of_below hb none) (by simp) (fun _ _ => by simp) (fun _ _ _ _ => by simp), h.new, (hb.block gt (Array.getElem?_eq_some_iff.1 h.tok).1).trans h.tok, (hb.block gp (Array.getElem?_eq_some_iff.1 h.ptr).1).trans h.ptr, h.prow⟩
theorem Fly.step {W W' : World} {n0 b : Nat} {lab : Nat → Nat} {S : Bst} {gs : List Nat} {sv rv : Value} {gt gp gn : Nat} {tc : Array Value} {nd : Nd} (h : Fly W n0 b lab S gs sv rv gt gp gn tc nd) (row : Option Nat)
  (hrow : ∀ k, row = some k → lab k = gs.length + 1 ∧ ∃ cells, W.heap[k]? = some (.cells cells 24 (0, 0)))
  (hall : ∀ k, k < W.heap.size → some k ≠ row → k ≠ gn → W'.heap[k]? = W.heap[k]?) (nd' : Nd) (hnod : NodeAt W' n0 (fun k => lab k = gs.length + 1 ∨ W.heap.size ≤ k) gn nd') :
  Fly W' n0 b (fun k => if W.heap.size ≤ k then gs.length + 1 else lab k) S gs sv rv gt gp gn tc nd' := by
 obtain ⟨hn1, kvn, mn, hhn, hRn, hMn⟩ := h.nod
 have hlt : ∀ {x : Nat} {o : Obj}, W.heap[x]? = some o → x < W.heap.size := fun hx => (Array.getElem?_eq_some_iff.1 hx).1
 have hcell : ∀ (x t : Nat) (cells : Array Value), W.heap[x]? = some (.cells cells t (0, 0)) → t ≠ 24 → some x ≠ row := by
  intro x t cells hx ht e
  obtain ⟨_, c2, h2⟩ := hrow x e.symm
  rw [hx] at h2
  injection h2 with h2
  injection h2 with _ h3
  exact ht h3
 have hmap : ∀ {m : Nat} {sp}, MapAt W n0 m sp → MapAt W' n0 m sp := by
  intro m sp hM
  obtain ⟨hM1, n, hM2, es, clock, hM3, hM4⟩ := hM
  refine ⟨hM1, n, hM2, es, clock, (hall m (hlt hM3) (fun e => ?_) (fun e => ?_)).trans hM3, hM4⟩
  ·
   obtain ⟨_, c2, h2⟩ := hrow m e.symm
   rw [hM3] at h2
   cases h2
  ·
   subst e
   rw [hM3] at hhn
   cases hhn
 have hother : ∀ (q : Nat) (v : Value) (xs : List S24), q ≤ gs.length → k24.R 24 W n0 (fun k => lab k = q) v xs → k24.R 24 W' n0 (fun k => (if W.heap.size ≤ k then gs.length + 1 else lab k) = q) v xs := by
  intro q v xs hq hv
  refine Kd.R_mono (Kd.R_step (Kd.R_types (Kd.R_old hv (Below.refl _ _)) hhn (fun x hx => by
   have : x = 24 := by
    have hE : (24 :: k24.E) = [24, 24] := rfl
    rw [hE] at hx
    simp at hx
    exact hx
   rw [this]; decide)) (fun k hk hl => hall k hl (fun e => ?_) hk.2)) (fun k hk => ?_)
  ·
   have := (hrow k e.symm).1
   have := hk.1.1
   omega
  ·
   show (if W.heap.size ≤ k then gs.length + 1 else lab k) = q
   rw [if_neg (by have := hk.1.2; omega)]
   exact hk.1.1
 have hbn : b ≠ gn := blk_ne h.rep.box hhn (by decide)
 refine ⟨⟨h.rep.hb, (hall b (hlt h.rep.box) (hcell b _ _ h.rep.box (by decide)) hbn).trans h.rep.box, ?_, h.rep.len, h.rep.apart, ?_, hother 0 rv _ (Nat.zero_le _) h.rep.root⟩, ?_, h.new, (hall gt (hlt h.tok) (hcell gt _ _ h.tok (by decide)) (blk_ne h.tok hhn (by decide))).trans h.tok, (hall gp (hlt h.ptr) (hcell gp _ _ h.ptr (by decide)) (blk_ne h.ptr hhn (by decide))).trans h.ptr, h.prow⟩
 ·
  refine own_move h.rep.row (fun q hq => ?_)
  obtain ⟨cells, hc⟩ := own_cells h.rep.row q hq
  exact hall q (hlt hc) (hcell q _ _ hc (by decide)) (blk_ne hc hhn (by decide))
 ·
  intro i g nd2 h1 h2
  obtain ⟨n1, kv, m, hh2, hR, hM⟩ := h.rep.nodes i g nd2 h1 h2
  have hi : i < gs.length := (List.getElem?_eq_some_iff.1 h1).1
  exact ⟨n1, kv, m, (hall g (hlt hh2) (hcell g _ _ hh2 (by decide)) (h.new g (List.mem_of_getElem? h1))).trans hh2, hother (i + 1) kv _ (by omega) hR, hmap hM⟩
 ·
  obtain ⟨n1, kv, m, hh2, hR, hM⟩ := hnod
  refine ⟨n1, kv, m, hh2, Kd.R_mono hR (fun k hk => ?_), hM⟩
  show (if W.heap.size ≤ k then gs.length + 1 else lab k) = gs.length + 1
  by_cases hc : W.heap.size ≤ k
  ·
   rw [if_pos hc]
  ·
   rw [if_neg hc]
   rcases hk with hk | hk
   ·
    exact hk
   ·
    exact absurd hk hc
theorem Fly.set_box {W : World} {n0 b : Nat} {lab : Nat → Nat} {S S' : Bst} {gs : List Nat} {sv rv : Value} {gt gp gn : Nat} {tc : Array Value} {nd : Nd} (h : Fly W n0 b lab S gs sv rv gt gp gn tc nd) (j : Nat) (u : Value)
  (hs : (#[sv, .string S.root.f0, .string S.root.f1, rv, .string S.space, .bool S.done, .int .i64 (S.many : Int)] : Array Value).setIfInBounds j u = #[sv, .string S'.root.f0, .string S'.root.f1, rv, .string S'.space, .bool S'.done, .int .i64 (S'.many : Int)])
  (h1 : S'.stack = S.stack) (h2 : S'.root.f2 = S.root.f2) : Fly (W.setCell ⟨b, j, none⟩ u) n0 b lab S' gs sv rv gt gp gn tc nd := by
 have hm := But.set W b j u
 obtain ⟨hn1, kvn, mn, hhn, hRn, hMn⟩ := h.nod
 have hbn : gn ≠ b := blk_ne hhn h.rep.box (by decide)
 exact ⟨h.rep.set_box j u hs h1 h2, NodeAt.but h.nod h.rep.box (by decide) hbn hm, h.new, (hm gt (Array.getElem?_eq_some_iff.1 h.tok).1 (blk_ne h.tok h.rep.box (by decide))).trans h.tok, (hm gp (Array.getElem?_eq_some_iff.1 h.ptr).1 (blk_ne h.ptr h.rep.box (by decide))).trans h.ptr, h.prow⟩
end Go.Proofs.YtknfpggiigncpaaGreatDoor.T
end
section
namespace Go.Proofs.YtknfpggiigncpaaGreatDoor.T
open Go.RowKit P E
def colN (l : List UInt8) : Nat := l.count 58
def colA (l : List UInt8) : Int := if l.count 58 = 0 then -1 else ((l.takeWhile (fun c => c != 58)).length : Int)
theorem tw_app (a b : List UInt8) (ha : 58 ∉ a) : (a ++ 58 :: b).takeWhile (fun c => c != 58) = a := by
 induction a with
 | nil => rfl
 | cons x a ih =>
  have hx : x ≠ 58 := fun e => ha (by rw [e]; exact List.mem_cons_self ..)
  rw [List.cons_append, List.takeWhile_cons_of_pos (by simpa using hx), ih (fun h => ha (List.mem_cons_of_mem _ h))]
theorem split_at (l : List UInt8) (h : l.count 58 ≠ 0) : ∃ a b, l = a ++ 58 :: b ∧ 58 ∉ a := by
 induction l with
 | nil => exact absurd rfl h
 | cons x l ih =>
  by_cases hx : x = 58
  ·
   exact ⟨[], l, by rw [hx]; rfl, by simp⟩
  ·
   rw [List.count_cons_of_ne (fun e => hx e)] at h
   obtain ⟨a, b, e, ha⟩ := ih h
   exact ⟨x :: a, b, by rw [e]; rfl, by simp only [List.mem_cons, not_or]; exact ⟨fun e => hx e.symm, ha⟩⟩
theorem index_one : ∀ l : List UInt8, Lib.index l [58] = Lib.indexByte l 58
 | [] => rfl
 | x :: l => by
  rw [Lib.index, Lib.indexByte, index_one l]
  have : ([58] : List UInt8).isPrefixOf (x :: l) = (x == 58) := by
   simp only [List.isPrefixOf, Bool.and_true]
   rw [Bool.eq_iff_iff]
   simp only [beq_iff_eq]
   exact eq_comm
  rw [this]
theorem ib_none (l : List UInt8) (h : 58 ∉ l) : Lib.indexByte l 58 = -1 := by
 induction l with
 | nil => rfl
 | cons x l ih =>
  rw [Lib.indexByte, ih (fun e => h (List.mem_cons_of_mem _ e)), if_neg (by simp; exact fun e => h (by rw [e]; exact List.mem_cons_self ..))]
  rfl
theorem ib_some (a b : List UInt8) (h : 58 ∉ a) : Lib.indexByte (a ++ 58 :: b) 58 = (a.length : Int) := by
 induction a with
 | nil => rfl
 | cons x a ih =>
  rw [List.cons_append, Lib.indexByte, ih (fun e => h (List.mem_cons_of_mem _ e)), if_neg (by simp; exact fun e => h (by rw [e]; exact List.mem_cons_self ..)), if_neg (by simp)]
  simp
theorem cut_none (l : List UInt8) (h : 58 ∉ l) : Lib.cut l [58] = (l, [], false) := by
 unfold Lib.cut
 rw [index_one, ib_none l h]
 rfl
theorem cut_some (a b : List UInt8) (h : 58 ∉ a) : Lib.cut (a ++ 58 :: b) [58] = (a, b, true) := by
 unfold Lib.cut
 rw [index_one, ib_some a b h, if_pos (by omega)]
 simp [List.drop_append]
theorem has_ib (l : List UInt8) : decide (0 ≤ Lib.indexByte l 58) = decide (l.count 58 ≠ 0) := by
 by_cases h : l.count 58 = 0
 ·
  rw [ib_none l (List.count_eq_zero.1 h), h]
  rfl
 ·
  obtain ⟨a, b, e, ha⟩ := split_at l h
  rw [decide_eq_true h, e, ib_some a b ha]
  simp
theorem splitT_none (l : List UInt8) (h : colN l = 0) : D.splitT l = ([], l, true) := by
 unfold D.splitT
 rw [cut_none l (List.count_eq_zero.1 h)]
 rfl
theorem splitT_some (a b : List UInt8) (h : 58 ∉ a) : D.splitT (a ++ 58 :: b) = (a, b, !a.isEmpty && !b.isEmpty && decide (colN b = 0)) := by
 unfold D.splitT
 rw [cut_some a b h]
 simp only [if_true]
 rw [has_ib b]
 unfold colN
 by_cases hb : b.count 58 = 0 <;> simp [hb]
theorem colN_some (a b : List UInt8) (h : 58 ∉ a) : colN (a ++ 58 :: b) = 1 + colN b := by
 unfold colN
 rw [List.count_append, List.count_eq_zero.2 h, List.count_cons_self]
 omega
theorem colA_some (a b : List UInt8) (h : 58 ∉ a) : colA (a ++ 58 :: b) = (a.length : Int) := by
 unfold colA
 rw [if_neg, tw_app a b h]
 have := colN_some a b h
 unfold colN at this
 omega
theorem col_cases (l : List UInt8) : (colN l = 0 ∧ colA l = -1 ∧ D.splitT l = ([], l, true)) ∨ ∃ a b, l = a ++ 58 :: b ∧ 58 ∉ a ∧ colN l = 1 + colN b ∧ colA l = (a.length : Int) ∧ D.splitT l = (a, b, !a.isEmpty && !b.isEmpty && decide (colN b = 0)) := by
 by_cases h : l.count 58 = 0
 ·
  exact .inl ⟨h, by unfold colA; rw [if_pos h], splitT_none l h⟩
 ·
  obtain ⟨a, b, e, ha⟩ := split_at l h
  exact .inr ⟨a, b, e, ha, by rw [e]; exact colN_some a b ha, by rw [e]; exact colA_some a b ha, by rw [e]; exact splitT_some a b ha⟩
end Go.Proofs.YtknfpggiigncpaaGreatDoor.T
end
