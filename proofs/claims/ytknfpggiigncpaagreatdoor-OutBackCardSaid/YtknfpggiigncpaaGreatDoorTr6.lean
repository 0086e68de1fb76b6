/- tree's open, walked by hand. -/
import Derived.Test.YtknfpggiigncpaaGreatDoorTp2
import Derived.StillTailTactics
set_option linter.unusedVariables false
set_option linter.unusedSimpArgs false
namespace Go.Proofs.YtknfpggiigncpaaGreatDoor.T
open Go.RowKit P E YtknfpggiigncpaaGreatDoorW.PrintLast YtknfpggiigncpaaGreatDoorW.PrintMore
open YtknfpggiigncpaaGreatDoorW.PrintWords
def op3T : Bool × List (List Nat × List Nat) := (true, [([], []), ([], []), ([1], [1]), ([2], [2]), ([3], [3]), ([], []), ([5], [5]), ([6], [6]), ([7], [7]), ([8], [8]), ([9], [9]), ([4, 10], [4, 10]), ([11], [11]), ([12], [12]), ([13], [13]), ([14], [14]), ([0, 0, 1, 2, 3, 4, 5, 6, 7, 8, 9, 10, 11, 12, 13, 14, 15], [0]), ([16, 0, 1, 2, 3, 4, 5, 6, 7, 8, 9, 10, 11, 12, 13, 14, 15], [16]), ([17, 15, 0, 1, 2, 3, 4, 5, 6, 7, 8, 9, 10, 11, 12, 13, 14, 15], [15, 17])])
def op3B : List Nat := [0, 0, 2, 6, 14, 0, 32, 96, 224, 480, 992, 2046, 4094, 8190, 16382, 32766, 65535, 131071, 262143]
theorem op3tab : rtab .any (opsOf Tryz.f115 3) = op3T := by kernel_rfl
theorem op3bits : waitsOk op3T.2 op3B = true := by kernel_rfl
def op9T : Bool × List (List Nat × List Nat) := (true, [([], []), ([0], [0]), ([1], [1]), ([2], [2]), ([3], [3]), ([], []), ([5], [5]), ([6], [6]), ([], []), ([8], [8]), ([7, 9], [7, 9]), ([4], [4]), ([], []), ([4, 12, 0, 1, 2, 3, 4, 5, 6, 7, 8, 9, 10, 11, 12], [4, 12]), ([0, 0, 1, 2, 3, 4, 5, 6, 7, 8, 9, 10, 11, 12, 13], [0]), ([14, 0, 1, 2, 3, 4, 5, 6, 7, 8, 9, 10, 11, 12, 13], [14]), ([15, 0, 1, 2, 3, 4, 5, 6, 7, 8, 9, 10, 11, 12, 13], [15]), ([16, 13, 13, 0, 1, 2, 3, 4, 5, 6, 7, 8, 9, 10, 11, 12, 13], [13, 16])])
def op9B : List Nat := [0, 1, 3, 7, 15, 0, 32, 96, 0, 256, 992, 31, 0, 8191, 16383, 32767, 65535, 131071]
theorem op9tab : rtab .any (opsOf Tryz.f115 9) = op9T := by kernel_rfl
theorem op9bits : waitsOk op9T.2 op9B = true := by kernel_rfl
def op11T : Bool × List (List Nat × List Nat) := (true, [([], []), ([], []), ([1], [1]), ([2], [2]), ([3], [3]), ([4], [4]), ([], []), ([6], [6]), ([7], [7]), ([], []), ([9], [9]), ([8, 10], [8, 10]), ([11], [11]), ([5, 12], [5, 12]), ([0, 0, 1, 2, 3, 4, 5, 6, 7, 8, 9, 10, 11, 12, 13], [0]), ([14, 0, 1, 2, 3, 4, 5, 6, 7, 8, 9, 10, 11, 12, 13], [14]), ([15, 0, 1, 2, 3, 4, 5, 6, 7, 8, 9, 10, 11, 12, 13], [15]), ([16, 13, 13, 0, 1, 2, 3, 4, 5, 6, 7, 8, 9, 10, 11, 12, 13], [13, 16])])
def op11B : List Nat := [0, 0, 2, 6, 14, 30, 0, 64, 192, 0, 512, 1984, 4032, 8190, 16383, 32767, 65535, 131071]
theorem op11tab : rtab .any (opsOf Tryz.f115 11) = op11T := by kernel_rfl
theorem op11bits : waitsOk op11T.2 op11B = true := by kernel_rfl
def op19T : Bool × List (List Nat × List Nat) := (true, [([], []), ([], []), ([1], [1]), ([2], [2]), ([3], [3]), ([4], [4]), ([0, 0, 1, 2, 3, 4, 5], [0]), ([6, 0, 1, 2, 3, 4, 5], [6]), ([7, 5, 5, 0, 1, 2, 3, 4, 5], [5, 7])])
def op19B : List Nat := [0, 0, 2, 6, 14, 30, 63, 127, 255]
theorem op19tab : rtab .any (opsOf Tryz.f115 19) = op19T := by kernel_rfl
theorem op19bits : waitsOk op19T.2 op19B = true := by kernel_rfl
def op20T : Bool × List (List Nat × List Nat) := (true, [([], []), ([0], [0]), ([1], [1]), ([2], [2]), ([], []), ([], []), ([5], [5]), ([3, 4, 6, 0, 1, 2, 3, 4, 5, 6], [3, 4, 6])])
def op20B : List Nat := [0, 1, 3, 7, 0, 0, 32, 127]
theorem op20tab : rtab .any (opsOf Tryz.f115 20) = op20T := by kernel_rfl
theorem op20bits : waitsOk op20T.2 op20B = true := by kernel_rfl
def op41T : Bool × List (List Nat × List Nat) := (true, [([], []), ([], []), ([1], [1]), ([2], [2]), ([3], [3]), ([], []), ([5], [5]), ([4, 6], [4, 6]), ([0, 0, 1, 2, 3, 4, 5, 6, 7], [0]), ([8, 0, 1, 2, 3, 4, 5, 6, 7], [8]), ([9, 7, 7, 0, 1, 2, 3, 4, 5, 6, 7], [7, 9])])
def op41B : List Nat := [0, 0, 2, 6, 14, 0, 32, 126, 255, 511, 1023]
theorem op41tab : rtab .any (opsOf Tryz.f115 41) = op41T := by kernel_rfl
theorem op41bits : waitsOk op41T.2 op41B = true := by kernel_rfl
theorem clone_any (w : World) (n0 m : Nat) (sp : List (List UInt8 × List UInt8)) (h : MapAt w n0 m sp) (hn : n0 ≤ w.heap.size) :
  Calls Tryz.prog 146 #[.map (some m)] w fun e w' => e = .returned (.map (some w.heap.size)) ∧ MapAt w' n0 w.heap.size sp ∧ Below w.heap.size w w' := by
 obtain ⟨h1, n, h2, hown⟩ := h
 exact (Go.Proofs.AnyW.maps_Clone_owns Tryz.cloneM 9 (plainElem Tryz.prog 9) m n (spD sp) w hown).mono fun e w' ⟨he, ho, _, hb⟩ => ⟨he, ⟨hn, n, h2, ho⟩, hb⟩
theorem Bl.low {w0 wf W : World} (h : Bl w0 wf W) : Below w0.heap.size w0 W := h.1
theorem cells_alloc' (W : World) (c : Array Value) (ty g : Nat) (h : W.heap.size = g) : (W.alloc (.cells c ty)).heap[g]? = some (.cells c ty (0, 0)) := by
 subst h
 exact (MapKept.heap_alloc W _).1
theorem node_lt {W : World} {n0 : Nat} {ok : Nat → Prop} {g : Nat} {nd : Nd} (h : NodeAt W n0 ok g nd) : g < W.heap.size := by
 obtain ⟨_, kv, m, hh, _⟩ := h
 exact (Array.getElem?_eq_some_iff.1 hh).1
theorem Rep.node_lt {W : World} {n0 b : Nat} {lab : Nat → Nat} {S : Bst} {gs : List Nat} {sv rv : Value} (h : Rep W n0 b lab S gs sv rv) : ∀ g ∈ gs, g < W.heap.size := by
 intro g hg
 obtain ⟨i, hi⟩ := List.getElem?_of_mem hg
 have hl : i < S.stack.length := by rw [← h.len]; exact (List.getElem?_eq_some_iff.1 hi).1
 exact T.node_lt (h.nodes i g _ hi (List.getElem?_eq_getElem hl))
def nd0 (t : C.S44) (sp : List (List UInt8 × List UInt8)) (ks : List S24) : Nd := ⟨⟨#[]⟩, ⟨#[]⟩, ks, t.f1, sp, ⟨#[]⟩, false⟩
theorem Fly.start {w : World} {n0 b : Nat} {lab : Nat → Nat} {S : Bst} {gs : List Nat} {sv rv : Value} (h : Rep w n0 b lab S gs sv rv) (hn : n0 ≤ w.heap.size) (t : C.S44) (tc : Array Value) :
  Fly ((((w.alloc (.cells tc 44)).alloc (.map #[] 0)).alloc (.cells #[.string ⟨#[]⟩, .string ⟨#[]⟩, .slice none 0 0, .string t.f1, .map (some (w.heap.size + 1)), .string ⟨#[]⟩, .bool false] 195)).alloc (.cells #[.pointer (some ⟨w.heap.size + 1 + 1, 0, none⟩)] 192)) n0 b lab S gs sv rv w.heap.size (w.heap.size + 1 + 1 + 1) (w.heap.size + 1 + 1) tc (nd0 t [] []) := by
 have hb := below_alloc (below_alloc (below_alloc (below_alloc (Below.refl w.heap.size w) (.cells tc 44)) (.map #[] 0)) (.cells #[.string ⟨#[]⟩, .string ⟨#[]⟩, .slice none 0 0, .string t.f1, .map (some (w.heap.size + 1)), .string ⟨#[]⟩, .bool false] 195)) (.cells #[.pointer (some ⟨w.heap.size + 1 + 1, 0, none⟩)] 192)
 have hH : ∀ (W : World) (o : Obj) (g : Nat) (x : Obj), W.heap[g]? = some x → (W.alloc o).heap[g]? = some x := fun W o g x hx => (Below.heap_alloc _ _ _ (Array.getElem?_eq_some_iff.1 hx).1).trans hx
 refine ⟨h.below hb, ⟨by omega, .slice none 0 0, w.heap.size + 1, ?_, Kd.R_nil _ _ _ _ _, by omega, 0, Nat.le_refl _, ?_⟩, ?_, ?_, ?_, ?_⟩
 ·
  refine hH _ _ _ _ ?_
  exact cells_alloc' _ _ _ _ (by simp)
 ·
  exact World.ownsMap.alloc (World.ownsMap.alloc (by
   have := World.ownsMap_made (H := Unit) (w.alloc (.cells tc 44)) Tryz.prog 9 (plainElem Tryz.prog 9)
   rw [show (w.alloc (.cells tc 44)).heap.size = w.heap.size + 1 by simp] at this
   exact this) _) _
 ·
  intro g hg e
  have := h.node_lt g hg
  omega
 ·
  exact hH _ _ _ _ (hH _ _ _ _ (hH _ _ _ _ (cells_alloc' _ _ _ _ rfl)))
 ·
  exact cells_alloc' _ _ _ _ (by simp)
 ·
  intro e
  have := own_lt h.row _ e.symm
  omega
theorem Fly.spaces {W : World} {n0 b : Nat} {lab : Nat → Nat} {S : Bst} {gs : List Nat} {sv rv : Value} {gt gp gn : Nat} {tc : Array Value} {t : C.S44} {sp sp' : List (List UInt8 × List UInt8)} {ks : List S24} (h : Fly W n0 b lab S gs sv rv gt gp gn tc (nd0 t sp ks)) (m : Nat) (hM : MapAt W n0 m sp') :
  ∃ lab', Fly (W.setCell ⟨gn, 4, none⟩ (.map (some m))) n0 b lab' S gs sv rv gt gp gn tc (nd0 t sp' ks) := by
 have hm := But.set W gn 4 (.map (some m))
 have hst := h.step (W' := W.setCell ⟨gn, 4, none⟩ (.map (some m))) none (fun k e => by cases e) (fun k hk _ h2 => hm k hk h2) (nd0 t sp' ks)
 obtain ⟨hn1, kvn, mn, hhn, hRn, hMn⟩ := h.nod
 exact ⟨_, hst ⟨hn1, kvn, m, (blk_set hhn 4 _).trans rfl, R_but (Kd.R_mono hRn (fun _ h => .inl h)) hhn (by decide) hm, hM.but hhn hm⟩⟩
theorem Fly.puts {W W' : World} {n0 b : Nat} {lab : Nat → Nat} {S : Bst} {gs : List Nat} {sv rv : Value} {gt gp gn : Nat} {tc : Array Value} {t : C.S44} {sp sp' : List (List UInt8 × List UInt8)} {ks : List S24} (h : Fly W n0 b lab S gs sv rv gt gp gn tc (nd0 t sp ks)) (m2 : Nat) (hM : MapAt W' n0 m2 sp') (hm : But W W' gn)
  (hh : ∀ kv m, W.heap[gn]? = some (.cells #[.string ⟨#[]⟩, .string ⟨#[]⟩, kv, .string t.f1, .map (some m), .string ⟨#[]⟩, .bool false] 195 (0, 0)) → W'.heap[gn]? = some (.cells #[.string ⟨#[]⟩, .string ⟨#[]⟩, kv, .string t.f1, .map (some m2), .string ⟨#[]⟩, .bool false] 195 (0, 0))) :
  ∃ lab', Fly W' n0 b lab' S gs sv rv gt gp gn tc (nd0 t sp' ks) := by
 have hst := h.step (W' := W') none (fun k e => by cases e) (fun k hk _ h2 => hm k hk h2) (nd0 t sp' ks)
 obtain ⟨hn1, kvn, mn, hhn, hRn, hMn⟩ := h.nod
 exact ⟨_, hst ⟨hn1, kvn, m2, hh kvn mn hhn, R_but (Kd.R_mono hRn (fun _ h => .inl h)) hhn (by decide) hm, hM⟩⟩
theorem Fly.kid {W W' : World} {n0 b : Nat} {lab : Nat → Nat} {S : Bst} {gs : List Nat} {sv rv : Value} {gt gp gn : Nat} {tc : Array Value} {t : C.S44} {sp : List (List UInt8 × List UInt8)} {ks : List S24} (h : Fly W n0 b lab S gs sv rv gt gp gn tc (nd0 t sp ks)) {kvn : Value} {mn : Nat}
  (hnh : W.heap[gn]? = some (.cells #[.string ⟨#[]⟩, .string ⟨#[]⟩, kvn, .string t.f1, .map (some mn), .string ⟨#[]⟩, .bool false] 195 (0, 0))) (hRn : k24.R 24 W n0 (fun k => lab k = gs.length + 1) kvn ks) (hMn : MapAt W n0 mn sp) (hall : ∀ k, k < W.heap.size → some k ≠ kvn.ownBlock → k ≠ gn → W'.heap[k]? = W.heap[k]?) (v1 : Value) (ks' : List S24)
  (hh' : W'.heap[gn]? = some (.cells #[.string ⟨#[]⟩, .string ⟨#[]⟩, v1, .string t.f1, .map (some mn), .string ⟨#[]⟩, .bool false] 195 (0, 0))) (hR1 : k24.R 24 W' n0 (fun k => lab k = gs.length + 1 ∨ W.heap.size ≤ k) v1 ks') :
  ∃ lab', Fly W' n0 b lab' S gs sv rv gt gp gn tc (nd0 t sp ks') := by
 obtain ⟨inner, ho⟩ := Kd.R_own hRn
 have hn := h.nod.1
 refine ⟨_, h.step (W' := W') kvn.ownBlock (fun k hk => ⟨?_, own_cells ho k hk⟩) hall (nd0 t sp ks') ⟨hn, v1, mn, hh', hR1, ?_⟩⟩
 ·
  by_cases hc : lab k = gs.length + 1
  ·
   exact hc
  ·
   exact absurd hk.symm (Kd.R_away hRn (g := k) (fun q hq e => by subst e; exact hc hq))
 ·
  obtain ⟨hM1, n, hM2, es, clock, hM3, hM4⟩ := hMn
  refine ⟨hM1, n, hM2, es, clock, (hall mn (Array.getElem?_eq_some_iff.1 hM3).1 (fun e => ?_) (fun e => ?_)).trans hM3, hM4⟩
  ·
   obtain ⟨cells, hc⟩ := own_cells ho _ e.symm
   rw [hM3] at hc
   cases hc
  ·
   subst e
   rw [hM3] at hnh
   cases hnh
theorem open_none {S : Bst} {t : C.S44} (h : attsT t.f3 (sp0T S) [] = none) : openT S t = (S, 23) := by
 unfold openT
 rw [h]
theorem MapAt.puts {W : World} {n0 m : Nat} {sp : List (List UInt8 × List UInt8)} (h : MapAt W n0 m sp) (hl : sp.length ≤ 100000) (k v : List UInt8) (hk : k.length ≤ 1048576) (hv : v.length ≤ 4194304) :
  ∃ w', (Instr.mapUpdate 193 (.map (some m)) (.string ⟨k.toArray⟩) (.string ⟨v.toArray⟩)).run Tryz.prog W = .ok () w' ∧ MapAt w' n0 m (sp ++ [(k, v)]) ∧ W.grownBy w' (some m) := by
 obtain ⟨h1, n, h2, hown⟩ := h
 obtain ⟨w', hr, ho, hg⟩ := hown.update (t := 193) (e := 9) (Maps.string_keyed Tryz.underlying9) Tryz.underlying193 (by unfold maxLen; omega) (key := .string ⟨k.toArray⟩) (val := .string ⟨v.toArray⟩) (kl := .string k) (d := .lit (.string v)) (ps := []) (WideMaps.keyOf_string_mk Tryz.underlying9 (by show k.length ≤ maxLen; unfold maxLen; omega)) (plainElem_string Tryz.underlying9 (by show v.length ≤ maxLen; unfold maxLen; omega))
 exact ⟨w', hr, ⟨h1, n + 1, by rw [List.length_append]; simp; omega, by rw [spD_snoc]; exact ho⟩, hg⟩
def inT (sp : List (List UInt8 × List UInt8)) (xp : List UInt8) : ByteArray := ⟨((spGet sp xp).getD []).toArray⟩
theorem open_calc {S : Bst} {t : C.S44} {sp : List (List UInt8 × List UInt8)} {ks : List S24} {xp xl : List UInt8} {xg : Bool} (h : attsT t.f3 (sp0T S) [] = some (sp, ks)) (hx : D.splitT t.f1.data.toList = (xp, xl, xg)) :
  openT S t = (if xg = false ∨ ((spGet sp xp).isSome || xp.isEmpty) = false ∨ S.done = true then (S, 23) else if (upT S (inT sp xp)).2 ≠ 0 then (S, 23) else if inT sp xp ≠ (upT S (inT sp xp)).1.space then (S, 24) else if S.stack.length = 64 then (S, 4) else if S.many + ks.length + 1 > 20000 then (S, 3)
   else if t.f4 = true then closeT { (upT S (inT sp xp)).1 with stack := (upT S (inT sp xp)).1.stack ++ [⟨⟨xl.toArray⟩, ⟨#[]⟩, ks, t.f1, sp, ⟨#[]⟩, false⟩], many := S.many + ks.length + 1 } t.f1 else ({ (upT S (inT sp xp)).1 with stack := (upT S (inT sp xp)).1.stack ++ [⟨⟨xl.toArray⟩, ⟨#[]⟩, ks, t.f1, sp, ⟨#[]⟩, false⟩], many := S.many + ks.length + 1 }, 0)) := by
 unfold openT
 rw [h]
 simp only [hx]
 rfl
theorem info192 : (Tryz.prog.info? 192).map (fun i => (i.zero, i.size, i.bytes)) = some (some (.pointer none), 1, 8) := by kernel_rfl
theorem R_row {W W1 : World} {n0 n : Nat} {sv : Value} {xs : List Value} {ok : Nat → Prop} {v : Value} {ks : List S24} (hr : W.ownsRow n0 192 1 sv n xs) (hg : W.grownBy W1 sv.ownBlock) (h : k24.R 24 W n0 ok v ks) : k24.R 24 W1 n0 ok v ks := by
 cases hs : sv.ownBlock with
 | none => rw [hs] at hg; exact Kd.R_grown h hg (fun _ _ => by simp)
 | some r =>
  obtain ⟨cells, hc⟩ := own_cells hr r hs
  rw [hs] at hg
  exact R_but h hc (by decide) (fun k hk hkr => hg.block k hk (fun e => hkr (Option.some.inj e)))
theorem NodeAt.row {W W1 : World} {n0 n : Nat} {sv : Value} {xs : List Value} {ok : Nat → Prop} {g : Nat} {nd : Nd} (hr : W.ownsRow n0 192 1 sv n xs) (hg : W.grownBy W1 sv.ownBlock) (h : NodeAt W n0 ok g nd) : NodeAt W1 n0 ok g nd := by
 cases hs : sv.ownBlock with
 | none => rw [hs] at hg; exact h.grown hg (by simp) (fun _ _ => by simp) (fun _ _ _ _ => by simp)
 | some r =>
  obtain ⟨cells, hc⟩ := own_cells hr r hs
  rw [hs] at hg
  have hne : g ≠ r := by
   obtain ⟨_, kv, m, hh, _⟩ := h
   exact blk_ne hh hc (by decide)
  exact NodeAt.but h hc (by decide) hne (fun k hk hkr => hg.block k hk (fun e => hkr (Option.some.inj e)))
theorem Fly.push {W W1 : World} {n0 b : Nat} {lab : Nat → Nat} {S : Bst} {gs : List Nat} {sv rv : Value} {gt gp gn : Nat} {tc : Array Value} {nd : Nd} (h : Fly W n0 b lab S gs sv rv gt gp gn tc nd) (v1 : Value) (ho : W1.ownsRow n0 192 1 v1 (gs.length + 1) (gs.map ptrE ++ [ptrE gn])) (hg : W.grownBy W1 sv.ownBlock) :
  Rep (W1.setCell ⟨b, 0, none⟩ v1) n0 b lab { S with stack := S.stack ++ [nd] } (gs ++ [gn]) v1 rv := by
 have hbr : some b ≠ sv.ownBlock := own_ne h.rep.row h.rep.box (by decide)
 have hbox1 := blk_grown h.rep.box hg hbr
 have hm := But.set W1 b 0 v1
 have N1 : ∀ {ok : Nat → Prop} {g : Nat} {nd : Nd}, NodeAt W n0 ok g nd → NodeAt (W1.setCell ⟨b, 0, none⟩ v1) n0 ok g nd := by
  intro ok g nd hN
  have hN1 := NodeAt.row h.rep.row hg hN
  refine hN1.but hbox1 (by decide) ?_ hm
  obtain ⟨_, kv, m, hh, _⟩ := hN1
  exact blk_ne hh hbox1 (by decide)
 refine ⟨h.rep.hb, (blk_set hbox1 0 v1).trans rfl, ?_, by simp [h.rep.len], ?_, ?_, R_but (R_row h.rep.row hg h.rep.root) hbox1 (by decide) hm⟩
 ·
  have := own_but ho hbox1 (by decide) hm
  rw [show gs.map ptrE ++ [ptrE gn] = (gs ++ [gn]).map ptrE by simp] at this
  rw [show (gs ++ [gn]).length = gs.length + 1 by simp]
  exact this
 ·
  exact List.nodup_append.2 ⟨h.rep.apart, List.nodup_cons.2 ⟨by simp, List.nodup_nil⟩, fun x hx y hy => by
   rw [List.mem_singleton] at hy
   subst hy
   exact h.new x hx⟩
 ·
  intro i g nd2 h1 h2
  by_cases hi : i < gs.length
  ·
   rw [List.getElem?_append_left hi] at h1
   have h2' : S.stack[i]? = some nd2 := by
    rw [← h2]
    show _ = (S.stack ++ [nd])[i]?
    rw [List.getElem?_append_left (by rw [← h.rep.len]; exact hi)]
   exact N1 (h.rep.nodes i g nd2 h1 h2')
  ·
   have hl : i < (gs ++ [gn]).length := (List.getElem?_eq_some_iff.1 h1).1
   simp at hl
   obtain rfl : i = gs.length := by omega
   rw [List.getElem?_append_right (Nat.le_refl _)] at h1
   have h2' : (S.stack ++ [nd])[gs.length]? = some nd2 := h2
   rw [h.rep.len, List.getElem?_append_right (Nat.le_refl _)] at h2'
   simp at h1 h2'
   subst h1 h2'
   exact N1 h.nod
theorem Fly.set_node {W : World} {n0 b : Nat} {lab : Nat → Nat} {S S' : Bst} {gs : List Nat} {sv rv : Value} {gt gp gn : Nat} {tc : Array Value} {ndn : Nd} (h : Fly W n0 b lab S gs sv rv gt gp gn tc ndn) (i : Nat) (g : Nat) (nd nd' : Nd) (hi : gs[i]? = some g) (hnd : S.stack[i]? = some nd)
  (j : Nat) (u : Value) (hs : S' = { S with stack := S.stack.set i nd' })
  (hn : ∀ kv m, (#[.string nd.nm, .string nd.tx, kv, .string nd.name, .map (some m), .string nd.said, .bool nd.hask] : Array Value).setIfInBounds j u = #[.string nd'.nm, .string nd'.tx, kv, .string nd'.name, .map (some m), .string nd'.said, .bool nd'.hask])
  (hk : nd'.ks = nd.ks) (hsp : nd'.sp = nd.sp) : Fly (W.setCell ⟨g, j, none⟩ u) n0 b lab S' gs sv rv gt gp gn tc ndn := by
 obtain ⟨n1, kv, m, hh, hR, hM⟩ := h.rep.nodes i g nd hi hnd
 have hm := But.set W g j u
 have hgn : g ≠ gn := h.new g (List.mem_of_getElem? hi)
 exact ⟨h.rep.set_node i g nd nd' hi hnd j u hs hn hk hsp, h.nod.but hh (by decide) (fun e => hgn e.symm) hm, h.new, (hm gt (Array.getElem?_eq_some_iff.1 h.tok).1 (blk_ne h.tok hh (by decide))).trans h.tok, (hm gp (Array.getElem?_eq_some_iff.1 h.ptr).1 (blk_ne h.ptr hh (by decide))).trans h.ptr, h.prow⟩
theorem Fly.named {W : World} {n0 b : Nat} {lab : Nat → Nat} {S : Bst} {gs : List Nat} {sv rv : Value} {gt gp gn : Nat} {tc : Array Value} {t : C.S44} {sp : List (List UInt8 × List UInt8)} {ks : List S24} (h : Fly W n0 b lab S gs sv rv gt gp gn tc (nd0 t sp ks)) (x : ByteArray) :
  ∃ lab', Fly (W.setCell ⟨gn, 0, none⟩ (.string x)) n0 b lab' S gs sv rv gt gp gn tc ⟨x, ⟨#[]⟩, ks, t.f1, sp, ⟨#[]⟩, false⟩ := by
 have hm := But.set W gn 0 (.string x)
 have hst := h.step (W' := W.setCell ⟨gn, 0, none⟩ (.string x)) none (fun k e => by cases e) (fun k hk _ h2 => hm k hk h2) ⟨x, ⟨#[]⟩, ks, t.f1, sp, ⟨#[]⟩, false⟩
 obtain ⟨hn1, kvn, mn, hhn, hRn, hMn⟩ := h.nod
 exact ⟨_, hst ⟨hn1, kvn, mn, (blk_set hhn 0 _).trans rfl, R_but (Kd.R_mono hRn (fun _ h => .inl h)) hhn (by decide) hm, hMn.but hhn hm⟩⟩
theorem set_last (ks : List S24) (a v : S24) : (ks ++ [a]).set ks.length v = ks ++ [v] := by
 rw [List.set_append, if_neg (by omega), Nat.sub_self]
 rfl
theorem sz24i : (Tryz.prog.info? 24).map (·.size) = some 3 := by
 have h := congrArg (Option.map fun x : Option Value × Nat × Nat => x.2.1) info24
 rw [Option.map_map] at h
 exact h
theorem up_len (S : Bst) (inn : ByteArray) : (upT S inn).1.stack.length = S.stack.length := by
 unfold upT
 cases S.stack.getLast? <;> simp
theorem ba_ne {a b : ByteArray} (h : a ≠ b) : (a.toList != b.toList) = true ∧ (a.toList == b.toList) = false := by
 have h1 : (a.toList == b.toList) = false := by
  rw [beq_eq_false_iff_ne]
  intro e
  rw [Lib.toList_data, Lib.toList_data] at e
  exact h (ByteArray.ext (Array.toList_inj.1 e))
 exact ⟨by unfold bne; rw [h1]; rfl, h1⟩
set_option maxHeartbeats 16000000 in
set_option maxRecDepth 100000 in
theorem open_any (w0 wf w : World) (b : Nat) (lab : Nat → Nat) (S : Bst) (gs : List Nat) (sv rv : Value) (t : C.S44) (A3 : Option Addr) (c3 : Nat) (h : Rep w w0.heap.size b lab S gs sv rv) (hT : C.k77.C w0 A3 t.f3.length t.f3) (ht1 : t.f1.size ≤ 1048576) (hta : ∀ a ∈ t.f3, a.f0.size ≤ 1048576 ∧ a.f1.size ≤ 4194304) (htl : t.f3.length ≤ 1000)
  (hsz : ∀ nd ∈ S.stack, nd.ks.length ≤ 20000 ∧ nd.said.size ≤ 17592186044416) (hd : gs.length ≤ 64) (hm : S.many ≤ 20000) (hsp0 : (sp0T S).length ≤ 90000) (hG0 : Glob w0) (hB0 : Bl w0 wf w) :
  Calls Tryz.prog 115 #[.pointer (some ⟨b, 0, none⟩), .agg #[.int .u8 t.f0, .string t.f1, .string t.f2, .slice A3 t.f3.length c3, .bool t.f4, .int .i64 t.f5]] w fun e w' => e = .returned (.int .i64 (openT S t).2) ∧ Bl w0 wf w' ∧ ((openT S t).2 = 0 → ∃ lab' gs' sv' rv', Rep w' w0.heap.size b lab' (openT S t).1 gs' sv' rv') := by
 have hn : w0.heap.size ≤ w.heap.size := hB0.1.size
 have hGB : w0.heap.size ≤ b := h.hb
 have HSL := Lib.hid h.len
 have HF := Lib.hid (Fly.start h hn t #[.int .u8 t.f0, .string t.f1, .string t.f2, .slice A3 t.f3.length c3, .bool t.f4, .int .i64 t.f5])
 have HB1 := Lib.hid (hB0.step (below_alloc (below_alloc (below_alloc (below_alloc (Below.refl w.heap.size w) (.cells #[.int .u8 t.f0, .string t.f1, .string t.f2, .slice A3 t.f3.length c3, .bool t.f4, .int .i64 t.f5] 44)) (.map #[] 0)) (.cells #[.string ⟨#[]⟩, .string ⟨#[]⟩, .slice none 0 0, .string t.f1, .map (some (w.heap.size + 1)), .string ⟨#[]⟩, .bool false] 195)) (.cells #[.pointer (some ⟨w.heap.size + 1 + 1, 0, none⟩)] 192)))
 obtain ⟨A, c, rfl⟩ := own_slice h.row
 have HG0 := Lib.hid hG0
 have HT := Lib.hid hT
 have HTA := Lib.hid hta
 have HSZ := Lib.hid hsz
 clear h hG0 hB0 hT hta hsz
 obtain ⟨R, hR⟩ : ∃ R, openT S t = R := ⟨_, rfl⟩
 rw [hR]
 have HRR := Lib.hid hR
 clear hR
 have hmm := @run_makeMap Tryz.prog
 go_enter Tryz.func115, Tryz.ntmps115
 go_upto_region 2 with fail
 clear hmm
 generalize hgp : w.heap.size + 1 + 1 + 1 = gp at HF HB1 ⊢
 generalize hgn : w.heap.size + 1 + 1 = gn at HF HB1 ⊢
 generalize hgm : w.heap.size + 1 = gm at HF HB1 ⊢
 generalize hgt : w.heap.size = gt at HF HB1 ⊢
 have hn1 : w0.heap.size ≤ gt := by omega
 have hn2 : w0.heap.size ≤ gn := by omega
 clear hgp hgn hgm hgt hn
 generalize (((w.alloc _).alloc _).alloc _).alloc _ = w1 at HF HB1 ⊢
 have hb0 := crow 0 (Value.slice A gs.length c) HF.out.rep.box
 go_upto_if 28 with fail
 go_cut [] (fun wc => ∃ lab', Hid (Fly wc w0.heap.size b lab' S gs (.slice A gs.length c) rv gt gp gn #[.int .u8 t.f0, .string t.f1, .string t.f2, .slice A3 t.f3.length c3, .bool t.f4, .int .i64 t.f5] (nd0 t (sp0T S) [])) ∧ Hid (Bl w0 wf wc))
 case first =>
  as_aux_lemma =>
   cases hgl : gs.length with
   | zero =>
    have hq : decide ((0 : Int) < (gs.length : Int)) = false := decide_eq_false (by omega)
    have hst : S.stack = [] := List.length_eq_zero_iff.1 (by rw [← HSL.out]; exact hgl)
    have hsp : sp0T S = [] := by unfold sp0T; rw [hst]; rfl
    go_wp2_with fail
    go_meet
    case rel => exact ⟨lab, by rw [hsp]; exact HF, HB1⟩
   | succ k =>
    as_aux_lemma =>
     obtain ⟨r, c', g, nd, hv, hkc, ht0, hg, hnd, hlast⟩ := HF.out.rep.top k hgl
     rw [← hgl] at hv
     cases hv
     have hq : decide ((0 : Int) < (gs.length : Int)) = true := decide_eq_true (by omega)
     obtain ⟨n1, kv, m, hh, hRk, hMp⟩ := HF.out.rep.nodes k g nd hg hnd
     have hsp : sp0T S = nd.sp := by unfold sp0T; rw [hlast]
     have HMp := Lib.hid hMp
     clear hRk hMp
     obtain ⟨_, kvn, mn, hnh, hRn, hMn⟩ := HF.out.nod
     clear hRn hMn
     have hp0 := crow 0 (Value.pointer (some ⟨gn, 0, none⟩)) HF.out.ptr
     have hc4 := crow 4 (Value.map (some m)) hh
     have hk1 : decide ((k : Int) < (gs.length : Int)) = true := decide_eq_true (by omega)
     have hk2 : (0 : Int) ≤ (k : Int) := by omega
     have hk3 : (k : Int) < (gs.length : Int) := by omega
     have hw1 : wrap64 ((gs.length : Int) - 1) = (k : Int) := by unfold wrap64; omega
     have hw2 : IntKind.i64.wrap ((gs.length : Int) - 1) = (k : Int) := by simp only [i64_w]; exact hw1
     have HGL := Lib.hid hgl
     clear hgl hkc
     go_wp2_with fail
     refine start_ (n := 19) (S := fun w' => w'.cell? ⟨gp, 0, none⟩ = some (.pointer (some ⟨gn, 0, none⟩)) ∧ w'.cell? ⟨b, 0, none⟩ = some (.slice (some ⟨r, 0, none⟩) gs.length c) ∧ w'.cell? ⟨r, k, none⟩ = some (.pointer (some ⟨g, 0, none⟩)) ∧ w'.cell? ⟨g, 4, none⟩ = some (.map (some m))) (ds := [18]) (ms5 0 19) (by kernel_rfl) rfl rfl ⟨hp0, hb0, ht0, hc4⟩ (fun hHeld => ?_)
     refine with_tabW op3tab op3bits (fun HT_ HW_ => ?_)
     skip
     refine take_ (i := 0) (N := some 29) (v := ?_) (a' := ?_) (ms5 1 18) rfl rfl (take_ofW HT_.out HW_.out (by kernel_rfl)) (fun _ _ _ h => h) (Or.inl ⟨by rfl, ?_⟩) hHeld ?_ ?_
     rotate_left
     ·
      rintro w' ⟨s0, s1, s2, s3⟩
      go_simp
      with_reducible rfl
     rotate_left
     ·
      go_simp
      rfl
     refine pure_ (i := 1) (N := some 30) (v := ?_) (a' := ?_) (ms5 2 17) rfl rfl (any_of HT_.out (by kernel_rfl)) (fun _ _ _ h => h) (Or.inl ⟨by rfl, ?_⟩) ?_ ?_
     rotate_left
     ·
      intro w'
      go_simp
      with_reducible rfl
     rotate_left
     ·
      go_simp
      rfl
     refine pure_ (i := 2) (N := some 31) (v := ?_) (a' := ?_) (ms5 3 16) rfl rfl (any_of HT_.out (by kernel_rfl)) (fun _ _ _ h => h) (Or.inl ⟨by rfl, ?_⟩) ?_ ?_
     rotate_left
     ·
      intro w'
      go_simp
      with_reducible rfl
     rotate_left
     ·
      go_simp
      rfl
     refine pure_ (i := 3) (N := some 32) (v := ?_) (a' := ?_) (ms5 4 15) rfl rfl (any_of HT_.out (by kernel_rfl)) (fun _ _ _ h => h) (Or.inl ⟨by rfl, ?_⟩) ?_ ?_
     rotate_left
     ·
      intro w'
      go_simp
      with_reducible rfl
     rotate_left
     ·
      go_simp
      rfl
     refine take_ (i := 4) (N := some 33) (v := ?_) (a' := ?_) (ms5 5 14) rfl rfl (take_ofW HT_.out HW_.out (by kernel_rfl)) (fun _ _ _ h => h) (Or.inl ⟨by rfl, ?_⟩) hHeld ?_ ?_
     rotate_left
     ·
      rintro w' ⟨s0, s1, s2, s3⟩
      go_simp
      with_reducible rfl
     rotate_left
     ·
      go_simp
      rfl
     refine pure_ (i := 5) (N := some 34) (v := ?_) (a' := ?_) (ms5 6 13) rfl rfl (any_of HT_.out (by kernel_rfl)) (fun _ _ _ h => h) (Or.inl ⟨by rfl, ?_⟩) ?_ ?_
     rotate_left
     ·
      intro w'
      go_simp
      with_reducible rfl
     rotate_left
     ·
      go_simp
      rfl
     refine pure_ (i := 6) (N := some 35) (v := ?_) (a' := ?_) (ms5 7 12) rfl rfl (any_of HT_.out (by kernel_rfl)) (fun _ _ _ h => h) (Or.inl ⟨by rfl, ?_⟩) ?_ ?_
     rotate_left
     ·
      intro w'
      go_simp
      with_reducible rfl
     rotate_left
     ·
      go_simp
      rfl
     refine pure_ (i := 7) (N := some 36) (v := ?_) (a' := ?_) (ms5 8 11) rfl rfl (any_of HT_.out (by kernel_rfl)) (fun _ _ _ h => h) (Or.inl ⟨by rfl, ?_⟩) ?_ ?_
     rotate_left
     ·
      intro w'
      go_simp
      with_reducible rfl
     rotate_left
     ·
      go_simp
      rfl
     refine take_ (i := 8) (N := some 37) (v := ?_) (a' := ?_) (ms5 9 10) rfl rfl (take_ofW HT_.out HW_.out (by kernel_rfl)) (fun _ _ _ h => h) (Or.inl ⟨by rfl, ?_⟩) hHeld ?_ ?_
     rotate_left
     ·
      rintro w' ⟨s0, s1, s2, s3⟩
      go_simp
      with_reducible rfl
     rotate_left
     ·
      go_simp
      rfl
     refine pure_ (i := 9) (N := some 38) (v := ?_) (a' := ?_) (ms5 10 9) rfl rfl (any_of HT_.out (by kernel_rfl)) (fun _ _ _ h => h) (Or.inl ⟨by rfl, ?_⟩) ?_ ?_
     rotate_left
     ·
      intro w'
      go_simp
      with_reducible rfl
     rotate_left
     ·
      go_simp
      rfl
     refine pure_ (i := 10) (N := some 39) (v := ?_) (a' := ?_) (ms5 11 8) rfl rfl (any_of HT_.out (by kernel_rfl)) (fun _ _ _ h => h) (Or.inl ⟨by rfl, ?_⟩) ?_ ?_
     rotate_left
     ·
      intro w'
      go_simp
      with_reducible rfl
     rotate_left
     ·
      go_simp
      rfl
     refine pure_ (i := 11) (N := some 40) (v := ?_) (a' := ?_) (ms5 12 7) rfl rfl (any_of HT_.out (by kernel_rfl)) (fun _ _ _ h => h) (Or.inl ⟨by rfl, ?_⟩) ?_ ?_
     rotate_left
     ·
      intro w'
      go_simp
      with_reducible rfl
     rotate_left
     ·
      go_simp
      rfl
     refine take_ (i := 12) (N := some 41) (v := ?_) (a' := ?_) (ms5 13 6) rfl rfl (take_ofW HT_.out HW_.out (by kernel_rfl)) (fun _ _ _ h => h) (Or.inl ⟨by rfl, ?_⟩) hHeld ?_ ?_
     rotate_left
     ·
      rintro w' ⟨s0, s1, s2, s3⟩
      go_simp
      with_reducible rfl
     rotate_left
     ·
      go_simp
      rfl
     refine pure_ (i := 13) (N := some 42) (v := ?_) (a' := ?_) (ms5 14 5) rfl rfl (any_of HT_.out (by kernel_rfl)) (fun _ _ _ h => h) (Or.inl ⟨by rfl, ?_⟩) ?_ ?_
     rotate_left
     ·
      intro w'
      go_simp
      with_reducible rfl
     rotate_left
     ·
      go_simp
      rfl
     refine pure_ (i := 14) (N := some 43) (v := ?_) (a' := ?_) (ms5 15 4) rfl rfl (any_of HT_.out (by kernel_rfl)) (fun _ _ _ h => h) (Or.inl ⟨by rfl, ?_⟩) ?_ ?_
     rotate_left
     ·
      intro w'
      go_simp
      with_reducible rfl
     rotate_left
     ·
      go_simp
      rfl
     refine take_ (i := 15) (N := some 44) (v := ?_) (a' := ?_) (ms5 16 3) rfl rfl (take_ofW HT_.out HW_.out (by kernel_rfl)) (fun _ _ _ h => h) (Or.inl ⟨by rfl, ?_⟩) hHeld ?_ ?_
     rotate_left
     ·
      rintro w' ⟨s0, s1, s2, s3⟩
      go_simp
      with_reducible rfl
     rotate_left
     ·
      go_simp
      rfl
     refine pure_ (i := 16) (N := some 45) (v := ?_) (a' := ?_) (ms5 17 2) rfl rfl (any_of HT_.out (by kernel_rfl)) (fun _ _ _ h => h) (Or.inl ⟨by rfl, ?_⟩) ?_ ?_
     rotate_left
     ·
      intro w'
      go_simp
      with_reducible rfl
     rotate_left
     ·
      go_simp
      rfl
     refine pure_ (i := 17) (N := some 46) (v := ?_) (a' := ?_) (ms5 18 1) rfl rfl (any_of HT_.out (by kernel_rfl)) (fun _ _ _ h => h) (Or.inl ⟨by rfl, ?_⟩) ?_ ?_
     rotate_left
     ·
      intro w'
      go_simp
      with_reducible rfl
     rotate_left
     ·
      go_simp
      rfl
     refine last_ (i := 18) (N := none) (ms5 19 0) rfl rfl (one_of HT_.out (by kernel_rfl)) (by decide) (fun K hK => ?_)
     have fy4 : w1.frozen? ⟨gn, 4, none⟩ = false := frozen_of_row _ _ _ _ _ hnh
     have y4 := crow 4 (Value.map (some mn)) hnh
     refine skip_ (w1 := ?_) (by rfl) rfl ?_ ?_
     rotate_left
     ·
      go_simp
      rfl
     refine hK.out _ _ ?_
     clear hK K
     refine done_ (done_of HT_.out (by kernel_rfl)) ?_
     go_wp2_with fail
     go_meet
     case rel =>
      obtain ⟨lab', hF⟩ := HF.out.spaces m HMp.out
      exact ⟨lab', by rw [hsp]; exact hF.below (below_drew (Below.refl _ _)), (HB1.out.set hn2 hnh (by decide) 4 _).step (below_drew (Below.refl _ _))⟩
 case rest =>
  obtain ⟨lab1, HF1, HB2⟩ := hcut
  clear hb0 HF HB1
  have hk3 := crow 3 (Value.slice A3 t.f3.length c3) HF1.out.tok
  go_wp2_with fail
  go_loopg [50] (t.f3.length + 1) (fun kq v50 wr => ∃ (i : Nat) (sp : List (List UInt8 × List UInt8)) (ks : List S24) (lab2 : Nat → Nat), v50 = .int .i64 i ∧ i ≤ t.f3.length ∧ Aside0 (kq + i = t.f3.length + 1) ∧ Aside0 (ks.length ≤ i ∧ sp.length ≤ 90000 + i) ∧ Aside0 (attsT (t.f3.drop i) sp ks = attsT t.f3 (sp0T S) []) ∧ Aside0 (Fly wr w0.heap.size b lab2 { S with many := S.many + ks.length } gs (.slice A gs.length c) rv gt gp gn #[.int .u8 t.f0, .string t.f1, .string t.f2, .slice A3 t.f3.length c3, .bool t.f4, .int .i64 t.f5] (nd0 t sp ks)) ∧ Aside0 (Bl w0 wf wr))
  case atStart => exact ⟨0, sp0T S, [], lab1, rfl, Nat.zero_le _, ⟨rfl⟩, ⟨Nat.le_refl _, hsp0⟩, ⟨rfl⟩, ⟨HF1.out⟩, ⟨HB2.out⟩⟩
  case round =>
   obtain ⟨i, sp, ks, lab2, rfl, hi, HK, HKL, HAT, HFr, HBr⟩ := hrel
   clear HF1 HB2 hk3
   by_cases h : i < t.f3.length
   ·
    obtain ⟨ad, e, hx0, hx1⟩ := C.at_T77 HT.out (i : Int) (by omega) (by omega)
    cases e
    simp only [Int.toNat_natCast] at hx0 hx1
    have hae : t.f3.drop i = C.rd_T77 t.f3 (i : Int) :: t.f3.drop (i + 1) := by
     rw [List.drop_eq_getElem_cons h]
     unfold C.rd_T77
     rw [Int.toNat_natCast, List.getD_eq_getElem?_getD, List.getElem?_eq_getElem h]
     rfl
    have hmem : C.rd_T77 t.f3 (i : Int) ∈ t.f3 := List.mem_of_mem_drop (by rw [hae]; exact List.mem_cons_self ..)
    have hxs := HTA.out _ hmem
    have hat := HAT.out
    rw [hae] at hat
    clear hmem hae HAT
    generalize C.rd_T77 t.f3 (i : Int) = x at *
    replace hx0 := (HBr.out.low.cell (World.block_lt_of_cell? w0 _ hx0)).trans hx0
    replace hx1 := (HBr.out.low.cell (World.block_lt_of_cell? w0 _ hx1)).trans hx1
    obtain ⟨hs0, hs1⟩ := hxs
    go_wp2_with fail
    have HBa := below_alloc HBr.out.low (.cells #[.string x.f0, .string x.f1] 77)
    have HA0 := (MapKept.heap_alloc wr (.cells #[.string x.f0, .string x.f1] 77)).1
    refine (D.split_any x.f0 _ (by omega) (HG0.out.below HBa)).mono ?_
    rintro e w3 ⟨rfl, hb3⟩
    have hba := below_alloc (Below.refl wr.heap.size wr) (.cells #[.string x.f0, .string x.f1] 77)
    have hb4 := hba.trans (hb3.mono hba.size)
    have HF3 := Lib.hid (HFr.out.below hb4)
    have HB3 := Lib.hid (HBr.out.step hb4)
    have HA3 := (hb3.block _ (Array.getElem?_eq_some_iff.1 HA0).1).trans HA0
    clear hx0 hx1 HBa HA0 hba hb4 hb3 HFr HBr
    obtain ⟨X, hX⟩ : ∃ X, D.splitT x.f0.data.toList = X := ⟨_, rfl⟩
    rw [attsT, hX] at hat
    rw [hX]
    obtain ⟨xp, xl, xg⟩ := X
    simp only at hat ⊢
    have hlp : xp.length ≤ 1048576 ∧ xl.length ≤ 1048576 := by
     rw [Lib.size_eq] at hs0
     rcases col_cases x.f0.data.toList with ⟨_, _, h3⟩ | ⟨a, b, e, _, _, _, h3⟩
     ·
      rw [h3] at hX; cases hX; exact ⟨Nat.zero_le _, hs0⟩
     ·
      rw [h3] at hX; cases hX
      rw [e] at hs0
      simp at hs0
      omega
    clear hX
    generalize wr.heap.size = ga at HA3 ⊢
    by_cases q1 : x.f0.data.toList = [120, 109, 108, 110, 115]
    ·
     as_aux_lemma =>
      rw [if_pos q1] at hat
      have z1 : (x.f0.toList == [120, 109, 108, 110, 115]) = true := by rw [Lib.toList_data, q1]; rfl
      have HAT := Lib.hid hat
      clear hat q1
      have ha0 := crow 0 (Value.string x.f0) HA3
      go_wp2_with fail
      have hbd := below_drew (Below.refl w3.heap.size w3)
      have HF6 := Lib.hid (HF3.out.below hbd)
      have HB6 := Lib.hid (HB3.out.step hbd)
      have HA6 := (hbd.block ga (Array.getElem?_eq_some_iff.1 HA3).1).trans HA3
      obtain ⟨_, kvn, mn, hnh0, hRn, hMn⟩ := HF6.out.nod
      have hnh : w3.drew.heap[gn]? = some (.cells #[.string ⟨#[]⟩, .string ⟨#[]⟩, kvn, .string t.f1, .map (some mn), .string ⟨#[]⟩, .bool false] 195 (0, 0)) := hnh0
      have HMn := Lib.hid hMn
      clear hRn hMn hnh0 hbd HF3 HB3 HA3 ha0
      have s19 : w3.drew.cell? ⟨gp, 0, none⟩ = some (.pointer (some ⟨gn, 0, none⟩)) ∧ w3.drew.cell? ⟨gn, 4, none⟩ = some (.map (some mn)) := ⟨(cell_of_row _ _ 0 _ _ _ HF6.out.ptr).trans rfl, (cell_of_row _ _ 4 _ _ _ hnh).trans rfl⟩
      refine start_ (n := 9) (S := fun w' => w'.cell? ⟨gp, 0, none⟩ = some (.pointer (some ⟨gn, 0, none⟩)) ∧ w'.cell? ⟨gn, 4, none⟩ = some (.map (some mn))) (ds := [8]) (ms5 0 9) (by kernel_rfl) rfl rfl s19 (fun hHeld => ?_)
      refine with_tabW op19tab op19bits (fun HT_ HW_ => ?_)
      generalize w3.drew = w6 at HF6 HB6 HA6 hnh HMn s19 hHeld ⊢
      refine take_ (i := 0) (N := some 123) (v := ?_) (a' := ?_) (ms5 1 8) rfl rfl (take_ofW HT_.out HW_.out (by kernel_rfl)) (fun _ _ _ h => h) (Or.inl ⟨by rfl, ?_⟩) hHeld ?_ ?_
      rotate_left
      ·
       rintro w' ⟨s0, s1⟩
       go_simp
       with_reducible rfl
      rotate_left
      ·
       go_simp
       rfl
      refine take_ (i := 1) (N := some 124) (v := ?_) (a' := ?_) (ms5 2 7) rfl rfl (take_ofW HT_.out HW_.out (by kernel_rfl)) (fun _ _ _ h => h) (Or.inl ⟨by rfl, ?_⟩) hHeld ?_ ?_
      rotate_left
      ·
       rintro w' ⟨s0, s1⟩
       go_simp
       with_reducible rfl
      rotate_left
      ·
       go_simp
       rfl
      refine pure_ (i := 2) (N := some 125) (v := ?_) (a' := ?_) (ms5 3 6) rfl rfl (any_of HT_.out (by kernel_rfl)) (fun _ _ _ h => h) (Or.inl ⟨by rfl, ?_⟩) ?_ ?_
      rotate_left
      ·
       intro w'
       go_simp
       with_reducible rfl
      rotate_left
      ·
       go_simp
       rfl
      refine pure_ (i := 3) (N := some 126) (v := ?_) (a' := ?_) (ms5 4 5) rfl rfl (any_of HT_.out (by kernel_rfl)) (fun _ _ _ h => h) (Or.inl ⟨by rfl, ?_⟩) ?_ ?_
      rotate_left
      ·
       intro w'
       go_simp
       with_reducible rfl
      rotate_left
      ·
       go_simp
       rfl
      refine take_ (i := 4) (N := some 127) (v := ?_) (a' := ?_) (ms5 5 4) rfl rfl (take_ofW HT_.out HW_.out (by kernel_rfl)) (fun _ _ _ h => h) (Or.inl ⟨by rfl, ?_⟩) hHeld ?_ ?_
      rotate_left
      ·
       rintro w' ⟨s0, s1⟩
       go_simp
       with_reducible rfl
      rotate_left
      ·
       go_simp
       rfl
      refine one_ (i := 5) (N := some 128) (ms5 6 3) rfl rfl (one_of HT_.out (by kernel_rfl)) (by decide) (fun K hK => ?_)
      refine goes_ Tryz.func146 (by kernel_rfl) rfl #[.map (some mn)] (by rfl) rfl rfl (by (try simp only [List.map_toArray, List.map_cons, List.map_nil]); first | done | rfl) ?_
      with_reducible refine (clone_any _ _ mn sp HMn.out HB6.out.low.size).mono ?_
      rintro e w7 ⟨rfl, hM7, hb7⟩
      refine ⟨_, rfl, ?_⟩
      have HM7 := Lib.hid hM7
      have hn7 := (hb7.block gn (Array.getElem?_eq_some_iff.1 hnh).1).trans hnh
      have HA7 := (hb7.block ga (Array.getElem?_eq_some_iff.1 HA6).1).trans HA6
      have hp7 := (hb7.block gp (Array.getElem?_eq_some_iff.1 HF6.out.ptr).1).trans HF6.out.ptr
      have HB7 := Lib.hid hb7
      refine hK.out _ _ ⟨cellB hb7 hHeld.1, cellB hb7 hHeld.2⟩ (fun hHeld => ?_)
      clear hK K hM7 hb7
      refine norm_ (a' := ?_) ?_ ?_
      rotate_left
      ·
       show Act.put _ (some 128) _ = _
       go_simp
       rfl
      refine pure_ (i := 6) (N := some 129) (v := ?_) (a' := ?_) (ms5 7 2) rfl rfl (any_of HT_.out (by kernel_rfl)) (fun _ _ _ h => h) (Or.inl ⟨by rfl, ?_⟩) ?_ ?_
      rotate_left
      ·
       intro w'
       go_simp
       with_reducible rfl
      rotate_left
      ·
       go_simp
       rfl
      refine pure_ (i := 7) (N := some 130) (v := ?_) (a' := ?_) (ms5 8 1) rfl rfl (any_of HT_.out (by kernel_rfl)) (fun _ _ _ h => h) (Or.inl ⟨by rfl, ?_⟩) ?_ ?_
      rotate_left
      ·
       intro w'
       go_simp
       with_reducible rfl
      rotate_left
      ·
       go_simp
       rfl
      refine last_ (i := 8) (N := none) (ms5 9 0) rfl rfl (one_of HT_.out (by kernel_rfl)) (by decide) (fun K hK => ?_)
      have y4 := crow 4 (Value.map (some mn)) hn7
      have fy4 : w7.frozen? ⟨gn, 4, none⟩ = false := frozen_of_row _ _ _ _ _ hn7
      refine skip_ (w1 := ?_) (by rfl) rfl ?_ ?_
      rotate_left
      ·
       go_simp
       rfl
      refine hK.out _ _ ?_
      clear hK K
      refine done_ (done_of HT_.out (by kernel_rfl)) ?_
      clear HT_ HW_
      have hn8 := (blk_set hn7 4 (Value.map (some w6.heap.size))).trans (show _ = some (Obj.cells #[.string ⟨#[]⟩, .string ⟨#[]⟩, kvn, .string t.f1, .map (some w6.heap.size), .string ⟨#[]⟩, .bool false] 195 (0, 0)) from rfl)
      have hgpn : gp ≠ gn := blk_ne hp7 hn7 (by decide)
      have hgan : ga ≠ gn := blk_ne HA7 hn7 (by decide)
      have HM8 := Lib.hid (HM7.out.but hn7 (But.set w7 gn 4 (.map (some w6.heap.size))))
      have hp8 := (Below.heap_setCell w7 ⟨gn, 4, none⟩ (.map (some w6.heap.size)) gp hgpn).trans hp7
      have HA8 := (Below.heap_setCell w7 ⟨gn, 4, none⟩ (.map (some w6.heap.size)) ga hgan).trans HA7
      have HB8 := Lib.hid ((HB6.out.step HB7.out).set hn2 hn7 (by decide) 4 (.map (some w6.heap.size)))
      have HU8 := Lib.hid (fun k (hk : k < w6.heap.size) (h2 : k ≠ gn) => (Below.heap_setCell w7 ⟨gn, 4, none⟩ (.map (some w6.heap.size)) k h2).trans (HB7.out.block k hk))
      have HSZ6 := Lib.hid (show w6.heap.size ≤ (w7.setCell ⟨gn, 4, none⟩ (.map (some w6.heap.size))).drew.heap.size from by simp; exact HB7.out.size)
      clear hn7 HA7 hp7 HB7 HM7 s19 hgpn hgan
      go_wp2_with fail
      have s20 : (w7.setCell ⟨gn, 4, none⟩ (.map (some w6.heap.size))).drew.cell? ⟨gp, 0, none⟩ = some (.pointer (some ⟨gn, 0, none⟩)) ∧ (w7.setCell ⟨gn, 4, none⟩ (.map (some w6.heap.size))).drew.cell? ⟨gn, 4, none⟩ = some (.map (some w6.heap.size)) ∧ (w7.setCell ⟨gn, 4, none⟩ (.map (some w6.heap.size))).drew.cell? ⟨ga, 1, none⟩ = some (.string x.f1) := ⟨(cell_of_row _ _ 0 _ _ _ hp8).trans rfl, (cell_of_row _ _ 4 _ _ _ hn8).trans rfl, (cell_of_row _ _ 1 _ _ _ HA8).trans rfl⟩
      have HM9 : Hid (MapAt (w7.setCell ⟨gn, 4, none⟩ (.map (some w6.heap.size))).drew w0.heap.size w6.heap.size sp) := HM8
      have HB9 : Hid (Bl w0 wf (w7.setCell ⟨gn, 4, none⟩ (.map (some w6.heap.size))).drew) := Lib.hid (HB8.out.step (below_drew (Below.refl _ _)))
      have HU9 : Hid (∀ k, k < w6.heap.size → k ≠ gn → (w7.setCell ⟨gn, 4, none⟩ (.map (some w6.heap.size))).drew.heap[k]? = w6.heap[k]?) := HU8
      have hn9 : (w7.setCell ⟨gn, 4, none⟩ (.map (some w6.heap.size))).drew.heap[gn]? = _ := hn8
      clear HM8 HB8 HU8 hn8 hp8 HA8
      obtain ⟨x1l, hx1l⟩ : ∃ l : List UInt8, x.f1.data.toList = l := ⟨_, rfl⟩
      have hx1e : x.f1 = ⟨x1l.toArray⟩ := by rw [← hx1l]
      rw [hx1l] at HAT
      rw [Lib.size_eq, hx1l] at hs1
      rw [hx1e] at s20
      skip
      clear hx1e hx1l
      refine start_ (n := 8) (S := fun w' => w'.cell? ⟨gp, 0, none⟩ = some (.pointer (some ⟨gn, 0, none⟩)) ∧ w'.cell? ⟨gn, 4, none⟩ = some (.map (some w6.heap.size)) ∧ w'.cell? ⟨ga, 1, none⟩ = some (.string ⟨x1l.toArray⟩)) (ds := [7]) (ms5 0 8) (by kernel_rfl) rfl rfl s20 (fun hHeld => ?_)
      refine with_tabW op20tab op20bits (fun HT_ HW_ => ?_)
      generalize (w7.setCell ⟨gn, 4, none⟩ (.map (some w6.heap.size))).drew = w9 at HM9 HB9 HU9 hn9 s20 HSZ6 hHeld ⊢
      refine take_ (i := 0) (N := some 131) (v := ?_) (a' := ?_) (ms5 1 7) rfl rfl (take_ofW HT_.out HW_.out (by kernel_rfl)) (fun _ _ _ h => h) (Or.inl ⟨by rfl, ?_⟩) hHeld ?_ ?_
      rotate_left
      ·
       rintro w' ⟨s0, s1, s2⟩
       go_simp
       with_reducible rfl
      rotate_left
      ·
       go_simp
       rfl
      refine pure_ (i := 1) (N := some 132) (v := ?_) (a' := ?_) (ms5 2 6) rfl rfl (any_of HT_.out (by kernel_rfl)) (fun _ _ _ h => h) (Or.inl ⟨by rfl, ?_⟩) ?_ ?_
      rotate_left
      ·
       intro w'
       go_simp
       with_reducible rfl
      rotate_left
      ·
       go_simp
       rfl
      refine pure_ (i := 2) (N := some 133) (v := ?_) (a' := ?_) (ms5 3 5) rfl rfl (any_of HT_.out (by kernel_rfl)) (fun _ _ _ h => h) (Or.inl ⟨by rfl, ?_⟩) ?_ ?_
      rotate_left
      ·
       intro w'
       go_simp
       with_reducible rfl
      rotate_left
      ·
       go_simp
       rfl
      refine take_ (i := 3) (N := some 134) (v := ?_) (a' := ?_) (ms5 4 4) rfl rfl (take_ofW HT_.out HW_.out (by kernel_rfl)) (fun _ _ _ h => h) (Or.inl ⟨by rfl, ?_⟩) hHeld ?_ ?_
      rotate_left
      ·
       rintro w' ⟨s0, s1, s2⟩
       go_simp
       with_reducible rfl
      rotate_left
      ·
       go_simp
       rfl
      refine pure_ (i := 4) (N := some 135) (v := ?_) (a' := ?_) (ms5 5 3) rfl rfl (any_of HT_.out (by kernel_rfl)) (fun _ _ _ h => h) (Or.inl ⟨by rfl, ?_⟩) ?_ ?_
      rotate_left
      ·
       intro w'
       go_simp
       with_reducible rfl
      rotate_left
      ·
       go_simp
       rfl
      refine pure_ (i := 5) (N := some 136) (v := ?_) (a' := ?_) (ms5 6 2) rfl rfl (any_of HT_.out (by kernel_rfl)) (fun _ _ _ h => h) (Or.inl ⟨by rfl, ?_⟩) ?_ ?_
      rotate_left
      ·
       intro w'
       go_simp
       with_reducible rfl
      rotate_left
      ·
       go_simp
       rfl
      refine take_ (i := 6) (N := some 137) (v := ?_) (a' := ?_) (ms5 7 1) rfl rfl (take_ofW HT_.out HW_.out (by kernel_rfl)) (fun _ _ _ h => h) (Or.inl ⟨by rfl, ?_⟩) hHeld ?_ ?_
      rotate_left
      ·
       rintro w' ⟨s0, s1, s2⟩
       go_simp
       with_reducible rfl
      rotate_left
      ·
       go_simp
       rfl
      refine last_ (i := 7) (N := none) (ms5 8 0) rfl rfl (one_of HT_.out (by kernel_rfl)) (by decide) (fun K hK => ?_)
      obtain ⟨w10, hrun, hM10, hg10⟩ := HM9.out.puts (by have := HKL.out.2; omega) [] x1l (by first | exact hlp.2 | exact Nat.zero_le _) hs1
      refine skip_ (w1 := w10) (by rfl) rfl (by go_simp) ?_
      refine hK.out _ _ ?_
      clear hK K hrun
      refine done_ (done_of HT_.out (by kernel_rfl)) ?_
      clear HT_ HW_
      have HB10 : Hid (Bl w0 wf w10) := Lib.hid ⟨HB9.out.low.trans (show Below w0.heap.size w9 w10 from ⟨hg10.os, hg10.tape, hg10.output, hg10.size, fun k hk => hg10.block k (Nat.lt_of_lt_of_le hk HB9.out.low.size) (fun e => by have := HB6.out.low.size; cases e; omega)⟩), K44.grown HB9.out.2 hg10 (fun k c e h => by cases e; obtain ⟨_, _, _, es, ck, hmm, _⟩ := HM9.out; rw [hmm] at h; cases h)⟩
      obtain ⟨lab4, hF10⟩ := HF6.out.puts w6.heap.size hM10 (fun k hk h2 => (hg10.block k (by exact Nat.lt_of_lt_of_le hk (HSZ6.out)) (fun e => by cases e; omega)).trans (HU9.out k hk h2)) (fun kv m hh => by rw [hnh] at hh; cases hh; exact (hg10.block gn (Array.getElem?_eq_some_iff.1 hn9).1 (fun e => by have := (Array.getElem?_eq_some_iff.1 hnh).1; cases e; omega)).trans hn9)
      have HF10 := Lib.hid hF10
      clear hF10 hM10 hg10 HM9 HB9 HU9 hn9 HF6 HB6 HA6 hnh HMn HSZ6
      go_wp2_with fail
      go_roundg (t.f3.length - i)
      case measure => have := HK.out; omega
      case rel => exact ⟨i + 1, sp ++ [([], x1l)], ks, lab4, by go_num, by omega, ⟨by omega⟩, ⟨by have := HKL.out; simp; omega⟩, ⟨HAT.out⟩, ⟨HF10.out⟩, ⟨HB10.out⟩⟩
    ·
     rw [if_neg q1] at hat
     have z1 : (x.f0.toList == [120, 109, 108, 110, 115]) = false := by rw [Lib.toList_data]; simpa using q1
     clear q1
     by_cases q2 : xp = [120, 109, 108, 110, 115] ∧ xg = true
     ·
      as_aux_lemma =>
       rw [if_pos q2] at hat
       obtain ⟨rfl, rfl⟩ := q2
       have HAT := Lib.hid hat
       clear hat
       have ha0 := crow 0 (Value.string x.f0) HA3
       go_wp2_with fail
       have hbd := below_drew (Below.refl w3.heap.size w3)
       have HF6 := Lib.hid (HF3.out.below hbd)
       have HB6 := Lib.hid (HB3.out.step hbd)
       have HA6 := (hbd.block ga (Array.getElem?_eq_some_iff.1 HA3).1).trans HA3
       obtain ⟨_, kvn, mn, hnh0, hRn, hMn⟩ := HF6.out.nod
       have hnh : w3.drew.heap[gn]? = some (.cells #[.string ⟨#[]⟩, .string ⟨#[]⟩, kvn, .string t.f1, .map (some mn), .string ⟨#[]⟩, .bool false] 195 (0, 0)) := hnh0
       have HMn := Lib.hid hMn
       clear hRn hMn hnh0 hbd HF3 HB3 HA3 ha0
       have s19 : w3.drew.cell? ⟨gp, 0, none⟩ = some (.pointer (some ⟨gn, 0, none⟩)) ∧ w3.drew.cell? ⟨gn, 4, none⟩ = some (.map (some mn)) := ⟨(cell_of_row _ _ 0 _ _ _ HF6.out.ptr).trans rfl, (cell_of_row _ _ 4 _ _ _ hnh).trans rfl⟩
       refine start_ (n := 9) (S := fun w' => w'.cell? ⟨gp, 0, none⟩ = some (.pointer (some ⟨gn, 0, none⟩)) ∧ w'.cell? ⟨gn, 4, none⟩ = some (.map (some mn))) (ds := [8]) (ms5 0 9) (by kernel_rfl) rfl rfl s19 (fun hHeld => ?_)
       refine with_tabW op19tab op19bits (fun HT_ HW_ => ?_)
       generalize w3.drew = w6 at HF6 HB6 HA6 hnh HMn s19 hHeld ⊢
       refine take_ (i := 0) (N := some 123) (v := ?_) (a' := ?_) (ms5 1 8) rfl rfl (take_ofW HT_.out HW_.out (by kernel_rfl)) (fun _ _ _ h => h) (Or.inl ⟨by rfl, ?_⟩) hHeld ?_ ?_
       rotate_left
       ·
        rintro w' ⟨s0, s1⟩
        go_simp
        with_reducible rfl
       rotate_left
       ·
        go_simp
        rfl
       refine take_ (i := 1) (N := some 124) (v := ?_) (a' := ?_) (ms5 2 7) rfl rfl (take_ofW HT_.out HW_.out (by kernel_rfl)) (fun _ _ _ h => h) (Or.inl ⟨by rfl, ?_⟩) hHeld ?_ ?_
       rotate_left
       ·
        rintro w' ⟨s0, s1⟩
        go_simp
        with_reducible rfl
       rotate_left
       ·
        go_simp
        rfl
       refine pure_ (i := 2) (N := some 125) (v := ?_) (a' := ?_) (ms5 3 6) rfl rfl (any_of HT_.out (by kernel_rfl)) (fun _ _ _ h => h) (Or.inl ⟨by rfl, ?_⟩) ?_ ?_
       rotate_left
       ·
        intro w'
        go_simp
        with_reducible rfl
       rotate_left
       ·
        go_simp
        rfl
       refine pure_ (i := 3) (N := some 126) (v := ?_) (a' := ?_) (ms5 4 5) rfl rfl (any_of HT_.out (by kernel_rfl)) (fun _ _ _ h => h) (Or.inl ⟨by rfl, ?_⟩) ?_ ?_
       rotate_left
       ·
        intro w'
        go_simp
        with_reducible rfl
       rotate_left
       ·
        go_simp
        rfl
       refine take_ (i := 4) (N := some 127) (v := ?_) (a' := ?_) (ms5 5 4) rfl rfl (take_ofW HT_.out HW_.out (by kernel_rfl)) (fun _ _ _ h => h) (Or.inl ⟨by rfl, ?_⟩) hHeld ?_ ?_
       rotate_left
       ·
        rintro w' ⟨s0, s1⟩
        go_simp
        with_reducible rfl
       rotate_left
       ·
        go_simp
        rfl
       refine one_ (i := 5) (N := some 128) (ms5 6 3) rfl rfl (one_of HT_.out (by kernel_rfl)) (by decide) (fun K hK => ?_)
       refine goes_ Tryz.func146 (by kernel_rfl) rfl #[.map (some mn)] (by rfl) rfl rfl (by (try simp only [List.map_toArray, List.map_cons, List.map_nil]); first | done | rfl) ?_
       with_reducible refine (clone_any _ _ mn sp HMn.out HB6.out.low.size).mono ?_
       rintro e w7 ⟨rfl, hM7, hb7⟩
       refine ⟨_, rfl, ?_⟩
       have HM7 := Lib.hid hM7
       have hn7 := (hb7.block gn (Array.getElem?_eq_some_iff.1 hnh).1).trans hnh
       have HA7 := (hb7.block ga (Array.getElem?_eq_some_iff.1 HA6).1).trans HA6
       have hp7 := (hb7.block gp (Array.getElem?_eq_some_iff.1 HF6.out.ptr).1).trans HF6.out.ptr
       have HB7 := Lib.hid hb7
       refine hK.out _ _ ⟨cellB hb7 hHeld.1, cellB hb7 hHeld.2⟩ (fun hHeld => ?_)
       clear hK K hM7 hb7
       refine norm_ (a' := ?_) ?_ ?_
       rotate_left
       ·
        show Act.put _ (some 128) _ = _
        go_simp
        rfl
       refine pure_ (i := 6) (N := some 129) (v := ?_) (a' := ?_) (ms5 7 2) rfl rfl (any_of HT_.out (by kernel_rfl)) (fun _ _ _ h => h) (Or.inl ⟨by rfl, ?_⟩) ?_ ?_
       rotate_left
       ·
        intro w'
        go_simp
        with_reducible rfl
       rotate_left
       ·
        go_simp
        rfl
       refine pure_ (i := 7) (N := some 130) (v := ?_) (a' := ?_) (ms5 8 1) rfl rfl (any_of HT_.out (by kernel_rfl)) (fun _ _ _ h => h) (Or.inl ⟨by rfl, ?_⟩) ?_ ?_
       rotate_left
       ·
        intro w'
        go_simp
        with_reducible rfl
       rotate_left
       ·
        go_simp
        rfl
       refine last_ (i := 8) (N := none) (ms5 9 0) rfl rfl (one_of HT_.out (by kernel_rfl)) (by decide) (fun K hK => ?_)
       have y4 := crow 4 (Value.map (some mn)) hn7
       have fy4 : w7.frozen? ⟨gn, 4, none⟩ = false := frozen_of_row _ _ _ _ _ hn7
       refine skip_ (w1 := ?_) (by rfl) rfl ?_ ?_
       rotate_left
       ·
        go_simp
        rfl
       refine hK.out _ _ ?_
       clear hK K
       refine done_ (done_of HT_.out (by kernel_rfl)) ?_
       clear HT_ HW_
       have hn8 := (blk_set hn7 4 (Value.map (some w6.heap.size))).trans (show _ = some (Obj.cells #[.string ⟨#[]⟩, .string ⟨#[]⟩, kvn, .string t.f1, .map (some w6.heap.size), .string ⟨#[]⟩, .bool false] 195 (0, 0)) from rfl)
       have hgpn : gp ≠ gn := blk_ne hp7 hn7 (by decide)
       have hgan : ga ≠ gn := blk_ne HA7 hn7 (by decide)
       have HM8 := Lib.hid (HM7.out.but hn7 (But.set w7 gn 4 (.map (some w6.heap.size))))
       have hp8 := (Below.heap_setCell w7 ⟨gn, 4, none⟩ (.map (some w6.heap.size)) gp hgpn).trans hp7
       have HA8 := (Below.heap_setCell w7 ⟨gn, 4, none⟩ (.map (some w6.heap.size)) ga hgan).trans HA7
       have HB8 := Lib.hid ((HB6.out.step HB7.out).set hn2 hn7 (by decide) 4 (.map (some w6.heap.size)))
       have HU8 := Lib.hid (fun k (hk : k < w6.heap.size) (h2 : k ≠ gn) => (Below.heap_setCell w7 ⟨gn, 4, none⟩ (.map (some w6.heap.size)) k h2).trans (HB7.out.block k hk))
       have HSZ6 := Lib.hid (show w6.heap.size ≤ (w7.setCell ⟨gn, 4, none⟩ (.map (some w6.heap.size))).drew.heap.size from by simp; exact HB7.out.size)
       clear hn7 HA7 hp7 HB7 HM7 s19 hgpn hgan
       go_wp2_with fail
       have s20 : (w7.setCell ⟨gn, 4, none⟩ (.map (some w6.heap.size))).drew.cell? ⟨gp, 0, none⟩ = some (.pointer (some ⟨gn, 0, none⟩)) ∧ (w7.setCell ⟨gn, 4, none⟩ (.map (some w6.heap.size))).drew.cell? ⟨gn, 4, none⟩ = some (.map (some w6.heap.size)) ∧ (w7.setCell ⟨gn, 4, none⟩ (.map (some w6.heap.size))).drew.cell? ⟨ga, 1, none⟩ = some (.string x.f1) := ⟨(cell_of_row _ _ 0 _ _ _ hp8).trans rfl, (cell_of_row _ _ 4 _ _ _ hn8).trans rfl, (cell_of_row _ _ 1 _ _ _ HA8).trans rfl⟩
       have HM9 : Hid (MapAt (w7.setCell ⟨gn, 4, none⟩ (.map (some w6.heap.size))).drew w0.heap.size w6.heap.size sp) := HM8
       have HB9 : Hid (Bl w0 wf (w7.setCell ⟨gn, 4, none⟩ (.map (some w6.heap.size))).drew) := Lib.hid (HB8.out.step (below_drew (Below.refl _ _)))
       have HU9 : Hid (∀ k, k < w6.heap.size → k ≠ gn → (w7.setCell ⟨gn, 4, none⟩ (.map (some w6.heap.size))).drew.heap[k]? = w6.heap[k]?) := HU8
       have hn9 : (w7.setCell ⟨gn, 4, none⟩ (.map (some w6.heap.size))).drew.heap[gn]? = _ := hn8
       clear HM8 HB8 HU8 hn8 hp8 HA8
       obtain ⟨x1l, hx1l⟩ : ∃ l : List UInt8, x.f1.data.toList = l := ⟨_, rfl⟩
       have hx1e : x.f1 = ⟨x1l.toArray⟩ := by rw [← hx1l]
       rw [hx1l] at HAT
       rw [Lib.size_eq, hx1l] at hs1
       rw [hx1e] at s20
       skip
       clear hx1e hx1l
       refine start_ (n := 8) (S := fun w' => w'.cell? ⟨gp, 0, none⟩ = some (.pointer (some ⟨gn, 0, none⟩)) ∧ w'.cell? ⟨gn, 4, none⟩ = some (.map (some w6.heap.size)) ∧ w'.cell? ⟨ga, 1, none⟩ = some (.string ⟨x1l.toArray⟩)) (ds := [7]) (ms5 0 8) (by kernel_rfl) rfl rfl s20 (fun hHeld => ?_)
       refine with_tabW op20tab op20bits (fun HT_ HW_ => ?_)
       generalize (w7.setCell ⟨gn, 4, none⟩ (.map (some w6.heap.size))).drew = w9 at HM9 HB9 HU9 hn9 s20 HSZ6 hHeld ⊢
       refine take_ (i := 0) (N := some 131) (v := ?_) (a' := ?_) (ms5 1 7) rfl rfl (take_ofW HT_.out HW_.out (by kernel_rfl)) (fun _ _ _ h => h) (Or.inl ⟨by rfl, ?_⟩) hHeld ?_ ?_
       rotate_left
       ·
        rintro w' ⟨s0, s1, s2⟩
        go_simp
        with_reducible rfl
       rotate_left
       ·
        go_simp
        rfl
       refine pure_ (i := 1) (N := some 132) (v := ?_) (a' := ?_) (ms5 2 6) rfl rfl (any_of HT_.out (by kernel_rfl)) (fun _ _ _ h => h) (Or.inl ⟨by rfl, ?_⟩) ?_ ?_
       rotate_left
       ·
        intro w'
        go_simp
        with_reducible rfl
       rotate_left
       ·
        go_simp
        rfl
       refine pure_ (i := 2) (N := some 133) (v := ?_) (a' := ?_) (ms5 3 5) rfl rfl (any_of HT_.out (by kernel_rfl)) (fun _ _ _ h => h) (Or.inl ⟨by rfl, ?_⟩) ?_ ?_
       rotate_left
       ·
        intro w'
        go_simp
        with_reducible rfl
       rotate_left
       ·
        go_simp
        rfl
       refine take_ (i := 3) (N := some 134) (v := ?_) (a' := ?_) (ms5 4 4) rfl rfl (take_ofW HT_.out HW_.out (by kernel_rfl)) (fun _ _ _ h => h) (Or.inl ⟨by rfl, ?_⟩) hHeld ?_ ?_
       rotate_left
       ·
        rintro w' ⟨s0, s1, s2⟩
        go_simp
        with_reducible rfl
       rotate_left
       ·
        go_simp
        rfl
       refine pure_ (i := 4) (N := some 135) (v := ?_) (a' := ?_) (ms5 5 3) rfl rfl (any_of HT_.out (by kernel_rfl)) (fun _ _ _ h => h) (Or.inl ⟨by rfl, ?_⟩) ?_ ?_
       rotate_left
       ·
        intro w'
        go_simp
        with_reducible rfl
       rotate_left
       ·
        go_simp
        rfl
       refine pure_ (i := 5) (N := some 136) (v := ?_) (a' := ?_) (ms5 6 2) rfl rfl (any_of HT_.out (by kernel_rfl)) (fun _ _ _ h => h) (Or.inl ⟨by rfl, ?_⟩) ?_ ?_
       rotate_left
       ·
        intro w'
        go_simp
        with_reducible rfl
       rotate_left
       ·
        go_simp
        rfl
       refine take_ (i := 6) (N := some 137) (v := ?_) (a' := ?_) (ms5 7 1) rfl rfl (take_ofW HT_.out HW_.out (by kernel_rfl)) (fun _ _ _ h => h) (Or.inl ⟨by rfl, ?_⟩) hHeld ?_ ?_
       rotate_left
       ·
        rintro w' ⟨s0, s1, s2⟩
        go_simp
        with_reducible rfl
       rotate_left
       ·
        go_simp
        rfl
       refine last_ (i := 7) (N := none) (ms5 8 0) rfl rfl (one_of HT_.out (by kernel_rfl)) (by decide) (fun K hK => ?_)
       obtain ⟨w10, hrun, hM10, hg10⟩ := HM9.out.puts (by have := HKL.out.2; omega) xl x1l (by first | exact hlp.2 | exact Nat.zero_le _) hs1
       refine skip_ (w1 := w10) (by rfl) rfl (by go_simp) ?_
       refine hK.out _ _ ?_
       clear hK K hrun
       refine done_ (done_of HT_.out (by kernel_rfl)) ?_
       clear HT_ HW_
       have HB10 : Hid (Bl w0 wf w10) := Lib.hid ⟨HB9.out.low.trans (show Below w0.heap.size w9 w10 from ⟨hg10.os, hg10.tape, hg10.output, hg10.size, fun k hk => hg10.block k (Nat.lt_of_lt_of_le hk HB9.out.low.size) (fun e => by have := HB6.out.low.size; cases e; omega)⟩), K44.grown HB9.out.2 hg10 (fun k c e h => by cases e; obtain ⟨_, _, _, es, ck, hmm, _⟩ := HM9.out; rw [hmm] at h; cases h)⟩
       obtain ⟨lab4, hF10⟩ := HF6.out.puts w6.heap.size hM10 (fun k hk h2 => (hg10.block k (by exact Nat.lt_of_lt_of_le hk (HSZ6.out)) (fun e => by cases e; omega)).trans (HU9.out k hk h2)) (fun kv m hh => by rw [hnh] at hh; cases hh; exact (hg10.block gn (Array.getElem?_eq_some_iff.1 hn9).1 (fun e => by have := (Array.getElem?_eq_some_iff.1 hnh).1; cases e; omega)).trans hn9)
       have HF10 := Lib.hid hF10
       clear hF10 hM10 hg10 HM9 HB9 HU9 hn9 HF6 HB6 HA6 hnh HMn HSZ6
       go_wp2_with fail
       go_roundg (t.f3.length - i)
       case measure => have := HK.out; omega
       case rel => exact ⟨i + 1, sp ++ [(xl, x1l)], ks, lab4, by go_num, by omega, ⟨by omega⟩, ⟨by have := HKL.out; simp; omega⟩, ⟨HAT.out⟩, ⟨HF10.out⟩, ⟨HB10.out⟩⟩
     ·
      rw [if_neg q2] at hat
      by_cases q3 : xp ≠ [] ∨ xg = false
      ·
       as_aux_lemma =>
        rw [if_pos q3] at hat
        have HAT := Lib.hid hat
        clear hat
        have ha0 := crow 0 (Value.string x.f0) HA3
        obtain rfl : R = (S, 23) := by rw [← HRR.out]; exact open_none HAT.out.symm
        cases xg with
        | false =>
         by_cases z2 : xp = [120, 109, 108, 110, 115]
         ·
          subst z2
          go_wp2_with fail
          go_ret
          exact ⟨rfl, HB3.out⟩
         ·
          have z3 : (xp == [120, 109, 108, 110, 115]) = false := by simpa using z2
          by_cases z4 : xp = []
          ·
           subst z4
           go_wp2_with fail
           go_ret
           exact ⟨rfl, HB3.out⟩
          ·
           have z5 : xp.isEmpty = false := by simpa using z4
           have z6 : (xp == []) = false := by simpa using z4
           go_wp2_with fail
           go_ret
           exact ⟨rfl, HB3.out⟩
        | true =>
         have z4 : xp ≠ [] := by rcases q3 with h | h; exact h; cases h
         have z2 : xp ≠ [120, 109, 108, 110, 115] := fun h => q2 ⟨h, rfl⟩
         have z3 : (xp == [120, 109, 108, 110, 115]) = false := by simpa using z2
         have z5 : xp.isEmpty = false := by simpa using z4
         have z6 : (xp == []) = false := by simpa using z4
         go_wp2_with fail
         go_ret
         exact ⟨rfl, HB3.out⟩
      ·
       as_aux_lemma =>
        rw [if_neg q3] at hat
        obtain rfl : xp = [] := Classical.byContradiction fun h => q3 (.inl h)
        obtain rfl : xg = true := by cases xg; exact absurd (.inr rfl) q3; rfl
        have HAT := Lib.hid hat
        clear hat q2 q3
        have ha0 := crow 0 (Value.string x.f0) HA3
        go_wp2_with fail
        have HNN := Lib.hid (show S.many + ks.length ≤ 30000 by have := HKL.out.1; omega)
        go_wp2_with fail
        go_region
        ·
         as_aux_lemma =>
          have hbd := below_drew1 (below_drew1 (below_alloc (Below.refl w3.heap.size w3) (.cells #[.bool false] 4)))
          have HF6 := Lib.hid (HF3.out.below hbd)
          have HB6 := Lib.hid (HB3.out.step hbd)
          have HA6 := (hbd.block ga (Array.getElem?_eq_some_iff.1 HA3).1).trans HA3
          obtain ⟨_, kvn, mn, hnh0, hRn0, hMn⟩ := HF6.out.nod
          have hRn : k24.R 24 (w3.alloc (.cells #[.bool false] 4)).drew.drew w0.heap.size (fun k => lab2 k = gs.length + 1) kvn ks := hRn0
          obtain ⟨An, cn, rfl, ln, hCn⟩ := Kd.R_reads hRn
          have hnh : (w3.alloc (.cells #[.bool false] 4)).drew.drew.heap[gn]? = some (.cells #[.string ⟨#[]⟩, .string ⟨#[]⟩, .slice An ks.length cn, .string t.f1, .map (some mn), .string ⟨#[]⟩, .bool false] 195 (0, 0)) := hnh0
          have HRn := Lib.hid hRn
          have HMn := Lib.hid hMn
          have sA : (w3.alloc (.cells #[.bool false] 4)).drew.drew.cell? ⟨gp, 0, none⟩ = some (.pointer (some ⟨gn, 0, none⟩)) ∧ (w3.alloc (.cells #[.bool false] 4)).drew.drew.cell? ⟨gn, 2, none⟩ = some (.slice An ks.length cn) ∧ (w3.alloc (.cells #[.bool false] 4)).drew.drew.cell? ⟨ga, 0, none⟩ = some (.string x.f0) ∧ (w3.alloc (.cells #[.bool false] 4)).drew.drew.cell? ⟨ga, 1, none⟩ = some (.string x.f1) := ⟨(cell_of_row _ _ 0 _ _ _ HF6.out.ptr).trans rfl, (cell_of_row _ _ 2 _ _ _ hnh).trans rfl, (cell_of_row _ _ 0 _ _ _ HA6).trans rfl, (cell_of_row _ _ 1 _ _ _ HA6).trans rfl⟩
          clear hRn hRn0 hMn hnh0 hCn hbd HF3 HB3 HA3 ha0 ln
          have hbnd : (ks.length + 1) * 56 ≤ 140737488355328 := Nat.le_trans (Nat.mul_le_mul_right 56 (Nat.succ_le_succ (show ks.length ≤ 20000 by have := HKL.out.1; omega))) (by decide)
          have hz1 : (9223372036854775807 < 1 + x.f0.size) = False := eq_false (by omega)
          go_wp2_with fail
          refine start_ (n := 18) (S := fun w' => w'.cell? ⟨gp, 0, none⟩ = some (.pointer (some ⟨gn, 0, none⟩)) ∧ w'.cell? ⟨gn, 2, none⟩ = some (.slice An ks.length cn) ∧ w'.cell? ⟨ga, 0, none⟩ = some (.string x.f0) ∧ w'.cell? ⟨ga, 1, none⟩ = some (.string x.f1)) (ds := [17]) (ms5 0 18) (by kernel_rfl) rfl rfl sA (fun hHeld => ?_)
          refine with_tabW op11tab op11bits (fun HT_ HW_ => ?_)
          generalize (w3.alloc (.cells #[.bool false] 4)).drew.drew = w6 at HF6 HB6 HA6 hnh HRn HMn sA hHeld ⊢
          refine take_ (i := 0) (N := some 81) (v := ?_) (a' := ?_) (ms5 1 17) rfl rfl (take_ofW HT_.out HW_.out (by kernel_rfl)) (fun _ _ _ h => h) (Or.inl ⟨by rfl, ?_⟩) hHeld ?_ ?_
          rotate_left
          ·
           rintro w' ⟨s0, s1, s2, s3⟩
           go_simp
           with_reducible rfl
          rotate_left
          ·
           go_simp
           rfl
          refine take_ (i := 1) (N := some 82) (v := ?_) (a' := ?_) (ms5 2 16) rfl rfl (take_ofW HT_.out HW_.out (by kernel_rfl)) (fun _ _ _ h => h) (Or.inl ⟨by rfl, ?_⟩) hHeld ?_ ?_
          rotate_left
          ·
           rintro w' ⟨s0, s1, s2, s3⟩
           go_simp
           with_reducible rfl
          rotate_left
          ·
           go_simp
           rfl
          refine pure_ (i := 2) (N := some 83) (v := ?_) (a' := ?_) (ms5 3 15) rfl rfl (any_of HT_.out (by kernel_rfl)) (fun _ _ _ h => h) (Or.inl ⟨by rfl, ?_⟩) ?_ ?_
          rotate_left
          ·
           intro w'
           go_simp
           with_reducible rfl
          rotate_left
          ·
           go_simp
           rfl
          refine pure_ (i := 3) (N := some 84) (v := ?_) (a' := ?_) (ms5 4 14) rfl rfl (any_of HT_.out (by kernel_rfl)) (fun _ _ _ h => h) (Or.inl ⟨by rfl, ?_⟩) ?_ ?_
          rotate_left
          ·
           intro w'
           go_simp
           with_reducible rfl
          rotate_left
          ·
           go_simp
           rfl
          refine pure_ (i := 4) (N := some 85) (v := ?_) (a' := ?_) (ms5 5 13) rfl rfl (any_of HT_.out (by kernel_rfl)) (fun _ _ _ h => h) (Or.inl ⟨by rfl, ?_⟩) ?_ ?_
          rotate_left
          ·
           intro w'
           go_simp
           with_reducible rfl
          rotate_left
          ·
           go_simp
           rfl
          refine take_ (i := 5) (N := some 86) (v := ?_) (a' := ?_) (ms5 6 12) rfl rfl (take_ofW HT_.out HW_.out (by kernel_rfl)) (fun _ _ _ h => h) (Or.inl ⟨by rfl, ?_⟩) hHeld ?_ ?_
          rotate_left
          ·
           rintro w' ⟨s0, s1, s2, s3⟩
           go_simp
           with_reducible rfl
          rotate_left
          ·
           go_simp
           rfl
          refine pure_ (i := 6) (N := some 87) (v := ?_) (a' := ?_) (ms5 7 11) rfl rfl (any_of HT_.out (by kernel_rfl)) (fun _ _ _ h => h) (Or.inl ⟨by rfl, ?_⟩) ?_ ?_
          rotate_left
          ·
           intro w'
           go_simp
           with_reducible rfl
          rotate_left
          ·
           go_simp
           rfl
          refine take_ (i := 7) (N := some 88) (v := ?_) (a' := ?_) (ms5 8 10) rfl rfl (take_ofW HT_.out HW_.out (by kernel_rfl)) (fun _ _ _ h => h) (Or.inl ⟨by rfl, ?_⟩) hHeld ?_ ?_
          rotate_left
          ·
           rintro w' ⟨s0, s1, s2, s3⟩
           go_simp
           with_reducible rfl
          rotate_left
          ·
           go_simp
           rfl
          refine pure_ (i := 8) (N := some 89) (v := ?_) (a' := ?_) (ms5 9 9) rfl rfl (any_of HT_.out (by kernel_rfl)) (fun _ _ _ h => h) (Or.inl ⟨by rfl, ?_⟩) ?_ ?_
          rotate_left
          ·
           intro w'
           go_simp
           with_reducible rfl
          rotate_left
          ·
           go_simp
           rfl
          refine pure_ (i := 9) (N := some 90) (v := ?_) (a' := ?_) (ms5 10 8) rfl rfl (any_of HT_.out (by kernel_rfl)) (fun _ _ _ h => h) (Or.inl ⟨by rfl, ?_⟩) ?_ ?_
          rotate_left
          ·
           intro w'
           go_simp
           with_reducible rfl
          rotate_left
          ·
           go_simp
           rfl
          refine take_ (i := 10) (N := some 91) (v := ?_) (a' := ?_) (ms5 11 7) rfl rfl (take_ofW HT_.out HW_.out (by kernel_rfl)) (fun _ _ _ h => h) (Or.inl ⟨by rfl, ?_⟩) hHeld ?_ ?_
          rotate_left
          ·
           rintro w' ⟨s0, s1, s2, s3⟩
           go_simp
           with_reducible rfl
          rotate_left
          ·
           go_simp
           rfl
          refine pure_ (i := 11) (N := some 92) (v := ?_) (a' := ?_) (ms5 12 6) rfl rfl (any_of HT_.out (by kernel_rfl)) (fun _ _ _ h => h) (Or.inl ⟨by rfl, ?_⟩) ?_ ?_
          rotate_left
          ·
           intro w'
           go_simp
           with_reducible rfl
          rotate_left
          ·
           go_simp
           rfl
          refine one_ (i := 12) (N := some 93) (ms5 13 5) rfl rfl (one_of HT_.out (by kernel_rfl)) (by decide) (fun K hK => ?_)
          refine value_ (w1 := ?_) (v := ?_) (by rfl) rfl ?_ ?_
          rotate_left 2
          ·
           go_simp
           constructor
           ·
            rfl
           ·
            rfl
          have hba := below_alloc (Below.refl w6.heap.size w6)
          refine hK.out _ _ ⟨cellB (hba _) hHeld.1, cellB (hba _) hHeld.2.1, cellB (hba _) hHeld.2.2.1, cellB (hba _) hHeld.2.2.2⟩ (fun _ => ?_)
          clear hK K hba
          refine norm_ (a' := ?_) ?_ ?_
          rotate_left
          ·
           show Act.put _ (some 93) _ = _
           go_simp
           rfl
          refine one_ (i := 13) (N := some 94) (ms5 14 4) rfl rfl (one_of HT_.out (by kernel_rfl)) (by decide) (fun K hK => ?_)
          refine Kd.R_append_step k24 (w0 := w0) (W := w6) w0.heap.size (by rfl) (.tmp 86) (.tmp 93) 22 24 (.agg #[(.string ⟨#[]⟩), (.string ⟨#[]⟩), (.slice none 0 0)]) 56 rfl Tryz.underlying22 info24 rfl (by decide) (by decide) (.slice An ks.length cn) ks (⟨(⟨#[64]⟩ : ByteArray) ++ x.f0, x.f1, []⟩ : S24) [.string ((⟨#[64]⟩ : ByteArray) ++ x.f0), .string x.f1, .slice none 0 0] (fun k => lab2 k = gs.length + 1 ∨ w6.heap.size ≤ k) (fun _ => False) rfl rfl (k24_mkM _ _ _ (⟨(⟨#[64]⟩ : ByteArray) ++ x.f0, x.f1, []⟩ : S24) (Kd.R_nil k24 24 w6 w0.heap.size _)) (fun k hk => hk.elim) (fun k hk => .inr hk) (Kd.R_mono HRn.out (fun k hk => .inl hk)) HB6.out.low HB6.out.low.size hbnd ?_
          intro v5 w5 hA5 hb5 hg5 hat5
          obtain ⟨A5, c5, rfl⟩ := Kd.R_slice hA5
          rw [show (ks ++ [(⟨(⟨#[64]⟩ : ByteArray) ++ x.f0, x.f1, []⟩ : S24)]).length = ks.length + 1 by simp] at hA5 hat5
          have hne : ∀ (x t : Nat) (cells : Array Value), w6.heap[x]? = some (.cells cells t (0, 0)) → t ≠ 24 → some x ≠ (Value.slice An ks.length cn).ownBlock := fun x t cells hx ht => own_ne (Kd.R_own HRn.out).choose_spec hx (fun e2 => ht e2.symm)
          have HK5 := Lib.hid (K44.grown HB6.out.2 hg5 (fun k c e h => hne k 44 c h (by decide) e.symm))
          have hn5 := blk_grown hnh hg5 (hne gn _ _ hnh (by decide))
          have hp5 := blk_grown HF6.out.ptr hg5 (hne gp _ _ HF6.out.ptr (by decide))
          have ha5 := blk_grown HA6 hg5 (hne ga _ _ HA6 (by decide))
          refine hK.out _ _ ⟨(cell_of_row _ _ 0 _ _ _ hp5).trans rfl, (cell_of_row _ _ 2 _ _ _ hn5).trans rfl, (cell_of_row _ _ 0 _ _ _ ha5).trans rfl, (cell_of_row _ _ 1 _ _ _ ha5).trans rfl⟩ (fun _ => ?_)
          clear hK K
          refine norm_ (a' := ?_) ?_ ?_
          rotate_left
          ·
           show Act.put _ (some 94) _ = _
           go_simp
           rfl
          refine pure_ (i := 14) (N := some 95) (v := ?_) (a' := ?_) (ms5 15 3) rfl rfl (any_of HT_.out (by kernel_rfl)) (fun _ _ _ h => h) (Or.inl ⟨by rfl, ?_⟩) ?_ ?_
          rotate_left
          ·
           intro w'
           go_simp
           with_reducible rfl
          rotate_left
          ·
           go_simp
           rfl
          refine pure_ (i := 15) (N := some 96) (v := ?_) (a' := ?_) (ms5 16 2) rfl rfl (any_of HT_.out (by kernel_rfl)) (fun _ _ _ h => h) (Or.inl ⟨by rfl, ?_⟩) ?_ ?_
          rotate_left
          ·
           intro w'
           go_simp
           with_reducible rfl
          rotate_left
          ·
           go_simp
           rfl
          refine pure_ (i := 16) (N := some 97) (v := ?_) (a' := ?_) (ms5 17 1) rfl rfl (any_of HT_.out (by kernel_rfl)) (fun _ _ _ h => h) (Or.inl ⟨by rfl, ?_⟩) ?_ ?_
          rotate_left
          ·
           intro w'
           go_simp
           with_reducible rfl
          rotate_left
          ·
           go_simp
           rfl
          refine last_ (i := 17) (N := none) (ms5 18 0) rfl rfl (one_of HT_.out (by kernel_rfl)) (by decide) (fun K hK => ?_)
          have y2 := crow 2 (Value.slice An ks.length cn) hn5
          have fy2 := frozen_of_row _ gn 2 _ _ hn5
          refine skip_ (w1 := ?_) (by rfl) rfl ?_ ?_
          rotate_left
          ·
           go_simp
           rfl
          refine hK.out _ _ ?_
          clear hK K
          refine done_ (done_of HT_.out (by kernel_rfl)) ?_
          clear HT_ HW_
          obtain ⟨lab8, hF8⟩ := HF6.out.kid (W' := w5.setCell ⟨gn, 2, none⟩ (.slice A5 (ks.length + 1) c5)) hnh HRn.out HMn.out (fun k hk h1 h2 => (Below.heap_setCell w5 ⟨gn, 2, none⟩ _ k h2).trans (hg5.block k hk h1)) _ (ks ++ [(⟨(⟨#[64]⟩ : ByteArray) ++ x.f0, x.f1, []⟩ : S24)]) ((blk_set hn5 2 _).trans rfl) (R_but hA5 hn5 (by decide) (But.set w5 gn 2 _))
          have hb8 : Bl w0 wf (w5.setCell ⟨gn, 2, none⟩ (.slice A5 (ks.length + 1) c5)) := Bl.set ⟨hb5, HK5.out⟩ hn2 hn5 (by decide) 2 _
          clear hne hat5 hA5 hb5 hg5 ha5 hp5 hn5 HRn HMn hnh HA6 HB6 HF6 sA y2 fy2 hHeld hbnd hz1
          generalize w5.setCell ⟨gn, 2, none⟩ (.slice A5 (ks.length + 1) c5) = w8 at hF8 hb8 ⊢
          have HF8 := Lib.hid hF8
          have HB8 := Lib.hid hb8
          clear hF8 hb8
          have hNN := HNN.out
          obtain ⟨N, hN⟩ : ∃ N : Nat, S.many + ks.length = N := ⟨_, rfl⟩
          rw [hN] at HF8 hNN
          have HN := Lib.hid hN
          clear hN
          have hmy := crow 6 (Value.int .i64 (N : Int)) HF8.out.rep.box
          have hfy : w8.frozen? ⟨b, 6, none⟩ = false := frozen_of_row _ _ _ _ _ HF8.out.rep.box
          go_wp2_with fail
          go_roundg (t.f3.length - i)
          case measure => have := HK.out; omega
          case rel => exact ⟨i + 1, sp, ks ++ [(⟨(⟨#[64]⟩ : ByteArray) ++ x.f0, x.f1, []⟩ : S24)], lab8, by go_num, by omega, ⟨by omega⟩, ⟨by have := HKL.out; simp; omega⟩, ⟨HAT.out⟩, ⟨HF8.out.set_box 6 (.int .i64 ((N : Int) + 1)) (by have := HN.out; simp; omega) rfl rfl⟩, ⟨HB8.out.set hGB HF8.out.rep.box (by decide) 6 _⟩⟩
        ·
         as_aux_lemma =>
          have hbd := below_drew1 (below_drew1 (below_alloc (Below.refl w3.heap.size w3) (.cells #[.bool true] 4)))
          have HF6 := Lib.hid (HF3.out.below hbd)
          have HB6 := Lib.hid (HB3.out.step hbd)
          have HA6 := (hbd.block ga (Array.getElem?_eq_some_iff.1 HA3).1).trans HA3
          obtain ⟨_, kvn, mn, hnh0, hRn0, hMn⟩ := HF6.out.nod
          have hRn : k24.R 24 (w3.alloc (.cells #[.bool true] 4)).drew.drew w0.heap.size (fun k => lab2 k = gs.length + 1) kvn ks := hRn0
          obtain ⟨An, cn, rfl, ln, hCn⟩ := Kd.R_reads hRn
          have hnh : (w3.alloc (.cells #[.bool true] 4)).drew.drew.heap[gn]? = some (.cells #[.string ⟨#[]⟩, .string ⟨#[]⟩, .slice An ks.length cn, .string t.f1, .map (some mn), .string ⟨#[]⟩, .bool false] 195 (0, 0)) := hnh0
          have HRn := Lib.hid hRn
          have HMn := Lib.hid hMn
          have sA : (w3.alloc (.cells #[.bool true] 4)).drew.drew.cell? ⟨gp, 0, none⟩ = some (.pointer (some ⟨gn, 0, none⟩)) ∧ (w3.alloc (.cells #[.bool true] 4)).drew.drew.cell? ⟨gn, 2, none⟩ = some (.slice An ks.length cn) ∧ (w3.alloc (.cells #[.bool true] 4)).drew.drew.cell? ⟨ga, 0, none⟩ = some (.string x.f0) ∧ (w3.alloc (.cells #[.bool true] 4)).drew.drew.cell? ⟨ga, 1, none⟩ = some (.string x.f1) := ⟨(cell_of_row _ _ 0 _ _ _ HF6.out.ptr).trans rfl, (cell_of_row _ _ 2 _ _ _ hnh).trans rfl, (cell_of_row _ _ 0 _ _ _ HA6).trans rfl, (cell_of_row _ _ 1 _ _ _ HA6).trans rfl⟩
          clear hRn hRn0 hMn hnh0 hCn hbd HF3 HB3 HA3 ha0 ln
          have hbnd : (ks.length + 1) * 56 ≤ 140737488355328 := Nat.le_trans (Nat.mul_le_mul_right 56 (Nat.succ_le_succ (show ks.length ≤ 20000 by have := HKL.out.1; omega))) (by decide)
          have hz1 : (9223372036854775807 < 1 + x.f0.size) = False := eq_false (by omega)
          go_wp2_with fail
          refine start_ (n := 18) (S := fun w' => w'.cell? ⟨gp, 0, none⟩ = some (.pointer (some ⟨gn, 0, none⟩)) ∧ w'.cell? ⟨gn, 2, none⟩ = some (.slice An ks.length cn) ∧ w'.cell? ⟨ga, 0, none⟩ = some (.string x.f0) ∧ w'.cell? ⟨ga, 1, none⟩ = some (.string x.f1)) (ds := [17]) (ms5 0 18) (by kernel_rfl) rfl rfl sA (fun hHeld => ?_)
          refine with_tabW op9tab op9bits (fun HT_ HW_ => ?_)
          generalize (w3.alloc (.cells #[.bool true] 4)).drew.drew = w6 at HF6 HB6 HA6 hnh HRn HMn sA hHeld ⊢
          refine take_ (i := 0) (N := some 63) (v := ?_) (a' := ?_) (ms5 1 17) rfl rfl (take_ofW HT_.out HW_.out (by kernel_rfl)) (fun _ _ _ h => h) (Or.inl ⟨by rfl, ?_⟩) hHeld ?_ ?_
          rotate_left
          ·
           rintro w' ⟨s0, s1, s2, s3⟩
           go_simp
           with_reducible rfl
          rotate_left
          ·
           go_simp
           rfl
          refine pure_ (i := 1) (N := some 64) (v := ?_) (a' := ?_) (ms5 2 16) rfl rfl (any_of HT_.out (by kernel_rfl)) (fun _ _ _ h => h) (Or.inl ⟨by rfl, ?_⟩) ?_ ?_
          rotate_left
          ·
           intro w'
           go_simp
           with_reducible rfl
          rotate_left
          ·
           go_simp
           rfl
          refine pure_ (i := 2) (N := some 65) (v := ?_) (a' := ?_) (ms5 3 15) rfl rfl (any_of HT_.out (by kernel_rfl)) (fun _ _ _ h => h) (Or.inl ⟨by rfl, ?_⟩) ?_ ?_
          rotate_left
          ·
           intro w'
           go_simp
           with_reducible rfl
          rotate_left
          ·
           go_simp
           rfl
          refine pure_ (i := 3) (N := some 66) (v := ?_) (a' := ?_) (ms5 4 14) rfl rfl (any_of HT_.out (by kernel_rfl)) (fun _ _ _ h => h) (Or.inl ⟨by rfl, ?_⟩) ?_ ?_
          rotate_left
          ·
           intro w'
           go_simp
           with_reducible rfl
          rotate_left
          ·
           go_simp
           rfl
          refine take_ (i := 4) (N := some 67) (v := ?_) (a' := ?_) (ms5 5 13) rfl rfl (take_ofW HT_.out HW_.out (by kernel_rfl)) (fun _ _ _ h => h) (Or.inl ⟨by rfl, ?_⟩) hHeld ?_ ?_
          rotate_left
          ·
           rintro w' ⟨s0, s1, s2, s3⟩
           go_simp
           with_reducible rfl
          rotate_left
          ·
           go_simp
           rfl
          refine pure_ (i := 5) (N := some 68) (v := ?_) (a' := ?_) (ms5 6 12) rfl rfl (any_of HT_.out (by kernel_rfl)) (fun _ _ _ h => h) (Or.inl ⟨by rfl, ?_⟩) ?_ ?_
          rotate_left
          ·
           intro w'
           go_simp
           with_reducible rfl
          rotate_left
          ·
           go_simp
           rfl
          refine take_ (i := 6) (N := some 69) (v := ?_) (a' := ?_) (ms5 7 11) rfl rfl (take_ofW HT_.out HW_.out (by kernel_rfl)) (fun _ _ _ h => h) (Or.inl ⟨by rfl, ?_⟩) hHeld ?_ ?_
          rotate_left
          ·
           rintro w' ⟨s0, s1, s2, s3⟩
           go_simp
           with_reducible rfl
          rotate_left
          ·
           go_simp
           rfl
          refine pure_ (i := 7) (N := some 70) (v := ?_) (a' := ?_) (ms5 8 10) rfl rfl (any_of HT_.out (by kernel_rfl)) (fun _ _ _ h => h) (Or.inl ⟨by rfl, ?_⟩) ?_ ?_
          rotate_left
          ·
           intro w'
           go_simp
           with_reducible rfl
          rotate_left
          ·
           go_simp
           rfl
          refine pure_ (i := 8) (N := some 71) (v := ?_) (a' := ?_) (ms5 9 9) rfl rfl (any_of HT_.out (by kernel_rfl)) (fun _ _ _ h => h) (Or.inl ⟨by rfl, ?_⟩) ?_ ?_
          rotate_left
          ·
           intro w'
           go_simp
           with_reducible rfl
          rotate_left
          ·
           go_simp
           rfl
          refine take_ (i := 9) (N := some 72) (v := ?_) (a' := ?_) (ms5 10 8) rfl rfl (take_ofW HT_.out HW_.out (by kernel_rfl)) (fun _ _ _ h => h) (Or.inl ⟨by rfl, ?_⟩) hHeld ?_ ?_
          rotate_left
          ·
           rintro w' ⟨s0, s1, s2, s3⟩
           go_simp
           with_reducible rfl
          rotate_left
          ·
           go_simp
           rfl
          refine pure_ (i := 10) (N := some 73) (v := ?_) (a' := ?_) (ms5 11 7) rfl rfl (any_of HT_.out (by kernel_rfl)) (fun _ _ _ h => h) (Or.inl ⟨by rfl, ?_⟩) ?_ ?_
          rotate_left
          ·
           intro w'
           go_simp
           with_reducible rfl
          rotate_left
          ·
           go_simp
           rfl
          refine pure_ (i := 11) (N := some 74) (v := ?_) (a' := ?_) (ms5 12 6) rfl rfl (any_of HT_.out (by kernel_rfl)) (fun _ _ _ h => h) (Or.inl ⟨by rfl, ?_⟩) ?_ ?_
          rotate_left
          ·
           intro w'
           go_simp
           with_reducible rfl
          rotate_left
          ·
           go_simp
           rfl
          refine one_ (i := 12) (N := some 75) (ms5 13 5) rfl rfl (one_of HT_.out (by kernel_rfl)) (by decide) (fun K hK => ?_)
          refine value_ (w1 := ?_) (v := ?_) (by rfl) rfl ?_ ?_
          rotate_left 2
          ·
           go_simp
           constructor
           ·
            rfl
           ·
            rfl
          have hba := below_alloc (Below.refl w6.heap.size w6)
          refine hK.out _ _ ⟨cellB (hba _) hHeld.1, cellB (hba _) hHeld.2.1, cellB (hba _) hHeld.2.2.1, cellB (hba _) hHeld.2.2.2⟩ (fun _ => ?_)
          clear hK K hba
          refine norm_ (a' := ?_) ?_ ?_
          rotate_left
          ·
           show Act.put _ (some 75) _ = _
           go_simp
           rfl
          refine one_ (i := 13) (N := some 76) (ms5 14 4) rfl rfl (one_of HT_.out (by kernel_rfl)) (by decide) (fun K hK => ?_)
          refine Kd.R_append_step k24 (w0 := w0) (W := w6) w0.heap.size (by rfl) (.tmp 67) (.tmp 75) 22 24 (.agg #[(.string ⟨#[]⟩), (.string ⟨#[]⟩), (.slice none 0 0)]) 56 rfl Tryz.underlying22 info24 rfl (by decide) (by decide) (.slice An ks.length cn) ks (⟨⟨#[]⟩, ⟨#[]⟩, []⟩ : S24) [.string ⟨#[]⟩, .string ⟨#[]⟩, .slice none 0 0] (fun k => lab2 k = gs.length + 1 ∨ w6.heap.size ≤ k) (fun _ => False) rfl rfl (k24_mkM _ _ _ (⟨⟨#[]⟩, ⟨#[]⟩, []⟩ : S24) (Kd.R_nil k24 24 w6 w0.heap.size _)) (fun k hk => hk.elim) (fun k hk => .inr hk) (Kd.R_mono HRn.out (fun k hk => .inl hk)) HB6.out.low HB6.out.low.size hbnd ?_
          intro v5 w5 hA5 hb5 hg5 hat5
          obtain ⟨A5, c5, rfl⟩ := Kd.R_slice hA5
          rw [show (ks ++ [(⟨⟨#[]⟩, ⟨#[]⟩, []⟩ : S24)]).length = ks.length + 1 by simp] at hA5 hat5
          have hne : ∀ (x t : Nat) (cells : Array Value), w6.heap[x]? = some (.cells cells t (0, 0)) → t ≠ 24 → some x ≠ (Value.slice An ks.length cn).ownBlock := fun x t cells hx ht => own_ne (Kd.R_own HRn.out).choose_spec hx (fun e2 => ht e2.symm)
          have HK5 := Lib.hid (K44.grown HB6.out.2 hg5 (fun k c e h => hne k 44 c h (by decide) e.symm))
          have hn5 := blk_grown hnh hg5 (hne gn _ _ hnh (by decide))
          have hp5 := blk_grown HF6.out.ptr hg5 (hne gp _ _ HF6.out.ptr (by decide))
          have ha5 := blk_grown HA6 hg5 (hne ga _ _ HA6 (by decide))
          refine hK.out _ _ ⟨(cell_of_row _ _ 0 _ _ _ hp5).trans rfl, (cell_of_row _ _ 2 _ _ _ hn5).trans rfl, (cell_of_row _ _ 0 _ _ _ ha5).trans rfl, (cell_of_row _ _ 1 _ _ _ ha5).trans rfl⟩ (fun _ => ?_)
          clear hK K
          refine norm_ (a' := ?_) ?_ ?_
          rotate_left
          ·
           show Act.put _ (some 76) _ = _
           go_simp
           rfl
          refine pure_ (i := 14) (N := some 77) (v := ?_) (a' := ?_) (ms5 15 3) rfl rfl (any_of HT_.out (by kernel_rfl)) (fun _ _ _ h => h) (Or.inl ⟨by rfl, ?_⟩) ?_ ?_
          rotate_left
          ·
           intro w'
           go_simp
           with_reducible rfl
          rotate_left
          ·
           go_simp
           rfl
          refine pure_ (i := 15) (N := some 78) (v := ?_) (a' := ?_) (ms5 16 2) rfl rfl (any_of HT_.out (by kernel_rfl)) (fun _ _ _ h => h) (Or.inl ⟨by rfl, ?_⟩) ?_ ?_
          rotate_left
          ·
           intro w'
           go_simp
           with_reducible rfl
          rotate_left
          ·
           go_simp
           rfl
          refine pure_ (i := 16) (N := some 79) (v := ?_) (a' := ?_) (ms5 17 1) rfl rfl (any_of HT_.out (by kernel_rfl)) (fun _ _ _ h => h) (Or.inl ⟨by rfl, ?_⟩) ?_ ?_
          rotate_left
          ·
           intro w'
           go_simp
           with_reducible rfl
          rotate_left
          ·
           go_simp
           rfl
          refine last_ (i := 17) (N := none) (ms5 18 0) rfl rfl (one_of HT_.out (by kernel_rfl)) (by decide) (fun K hK => ?_)
          have y2 := crow 2 (Value.slice An ks.length cn) hn5
          have fy2 := frozen_of_row _ gn 2 _ _ hn5
          refine skip_ (w1 := ?_) (by rfl) rfl ?_ ?_
          rotate_left
          ·
           go_simp
           rfl
          refine hK.out _ _ ?_
          clear hK K
          refine done_ (done_of HT_.out (by kernel_rfl)) ?_
          clear HT_ HW_
          obtain ⟨inn, hown⟩ := Kd.R_own hA5
          obtain ⟨hwn, hwv | ⟨g5, cap5, cur5, hwv, hg5b, hg5h, hg5c⟩⟩ := hown
          ·
           exact absurd hwv.2 (by simp)
          obtain ⟨rfl, rfl⟩ : A5 = some ⟨g5, 0, none⟩ ∧ c5 = cap5 := by
           injection hwv with h1 h2 h3
           exact ⟨h1, h3⟩
          have HA7 := Lib.hid (R_but hA5 hn5 (by decide) (But.set w5 gn 2 (.slice (some ⟨g5, 0, none⟩) (ks.length + 1) c5)))
          have HB7 := Lib.hid (Bl.set (wf := wf) ⟨hb5, HK5.out⟩ hn2 hn5 (by decide) 2 (.slice (some ⟨g5, 0, none⟩) (ks.length + 1) c5))
          obtain ⟨cc, hcl, hcM, hcc, hcf⟩ := Kd.R_elem HA7.out (⟨⟨#[]⟩, ⟨#[]⟩, []⟩ : S24) (ks.length : Int) (Int.natCast_nonneg _) (by rw [Int.natCast_add]; exact Int.lt_succ _)
          have HCC := Lib.hid hcc
          have hgn5 : gn ≠ g5 := blk_ne hn5 hg5h (by decide)
          have HG5R := Lib.hid ((Below.heap_setCell w5 ⟨gn, 2, none⟩ (.slice (some ⟨g5, 0, none⟩) (ks.length + 1) c5) g5 (fun e => hgn5 e.symm)).trans hg5h)
          have HAT5 := Lib.hid hat5
          have HG5 := Lib.hid hg5
          clear hcc hcM hcf hne hat5 hg5c hg5h hwv hwn hA5 hb5 hg5
          have hz1 : (0 : Int) ≤ (ks.length : Int) := Int.natCast_nonneg _
          have hz2 : (ks.length : Int) < (ks.length : Int) + 1 := Int.lt_succ _
          go_wp2_with (refine Kd.R_store k24 (w0 := w0) (W := w5.setCell ⟨gn, 2, none⟩ (.slice (some ⟨g5, 0, none⟩) (ks.length + 1) c5)) w0.heap.size rfl rfl 24 (.tmp 80) (.tmp 73) rfl 24 (g := g5) (n := ks.length + 1) (cap := c5) (o' := ks.length * 3) (ks.length : Int) 0 (ks ++ [(⟨⟨#[]⟩, ⟨#[]⟩, []⟩ : S24)]) (⟨(⟨#[64]⟩ : ByteArray) ++ x.f0, x.f1, []⟩ : S24) (.agg #[.string ((⟨#[64]⟩ : ByteArray) ++ x.f0), .string x.f1, .slice none 0 0]) [.string ((⟨#[64]⟩ : ByteArray) ++ x.f0), .string x.f1, .slice none 0 0] cc (fun k => lab2 k = gs.length + 1 ∨ w6.heap.size ≤ k) (fun _ => False) ?s1 ?s2 ?s3 ?s4 ?s5 ?s6 HA7.out ?s7 ?s8 hcl HCC.out ?s9 ?sM ?sk HB7.out.low ?_)
          case s2 => rfl
          try (case s1 => rfl)
          try (case s3 => rfl)
          try (case s4 => rfl)
          try (case s7 => exact hz1)
          try (case s8 => exact hz2)
          case s5 => exact sz24i
          case s6 =>
           intro q hq
           simp only [List.mem_cons, List.not_mem_nil, or_false] at hq
           rcases hq with rfl | rfl | rfl <;> rfl
          case s9 => exact Nat.le_refl 3
          case sM =>
           rw [List.drop_of_length_le (by rw [hcl]; exact Nat.le_refl 3)]
           exact k24_mkM _ _ _ (⟨(⟨#[64]⟩ : ByteArray) ++ x.f0, x.f1, []⟩ : S24) (Kd.R_nil _ _ _ _ _)
          case sk => exact fun k h => h.elim
          intro w8 hA8 hb8 hg8
          have hb8 : Bl w0 wf w8 := ⟨hb8, K44.grown HB7.out.2 hg8 (fun k c e h => by cases e; exact absurd rfl (blk_ne h HG5R.out (by decide)))⟩
          rw [Int.toNat_natCast, set_last] at hA8
          have hall : ∀ k, k < w6.heap.size → some k ≠ (Value.slice An ks.length cn).ownBlock → k ≠ gn → w8.heap[k]? = w6.heap[k]? := by
           intro k hk h1 h2
           refine (hg8.block k (by simp; exact Nat.lt_of_lt_of_le hk HG5.out.size) (fun e => ?_)).trans ((Below.heap_setCell w5 ⟨gn, 2, none⟩ _ k h2).trans (HG5.out.block k hk h1))
           cases e
           rcases HAT5.out with hx | ⟨q, hx, hq⟩
           ·
            exact h1 hx
           ·
            cases hx
            exact absurd hk (Nat.not_lt.2 hq)
          have hgn8 : w8.heap[gn]? = some (.cells #[.string ⟨#[]⟩, .string ⟨#[]⟩, .slice (some ⟨g5, 0, none⟩) (ks.length + 1) c5, .string t.f1, .map (some mn), .string ⟨#[]⟩, .bool false] 195 (0, 0)) := (hg8.block gn (by simp; exact (Array.getElem?_eq_some_iff.1 hn5).1) (fun e => hgn5 (Option.some.inj e))).trans ((blk_set hn5 2 _).trans rfl)
          obtain ⟨lab8, hF8⟩ := HF6.out.kid (W' := w8) hnh HRn.out HMn.out hall _ (ks ++ [(⟨(⟨#[64]⟩ : ByteArray) ++ x.f0, x.f1, []⟩ : S24)]) hgn8 hA8
          clear hall hgn8
          clear HA7 HB7 HCC hgn5 HAT5 HG5 hA8 hg8 ha5 hp5 hn5 HRn HMn hnh HA6 HB6 HF6 sA y2 fy2 hHeld hbnd hz1 hz2
          have HF8 := Lib.hid hF8
          have HB8 := Lib.hid hb8
          clear hF8 hb8
          have hNN := HNN.out
          obtain ⟨N, hN⟩ : ∃ N : Nat, S.many + ks.length = N := ⟨_, rfl⟩
          rw [hN] at HF8 hNN
          have HN := Lib.hid hN
          clear hN
          have hmy := crow 6 (Value.int .i64 (N : Int)) HF8.out.rep.box
          have hfy : w8.frozen? ⟨b, 6, none⟩ = false := frozen_of_row _ _ _ _ _ HF8.out.rep.box
          go_wp2_with fail
          go_roundg (t.f3.length - i)
          case measure => have := HK.out; omega
          case rel => exact ⟨i + 1, sp, ks ++ [(⟨(⟨#[64]⟩ : ByteArray) ++ x.f0, x.f1, []⟩ : S24)], lab8, by go_num, by omega, ⟨by omega⟩, ⟨by have := HKL.out; simp; omega⟩, ⟨HAT.out⟩, ⟨HF8.out.set_box 6 (.int .i64 ((N : Int) + 1)) (by have := HN.out; simp; omega) rfl rfl⟩, ⟨HB8.out.set hGB HF8.out.rep.box (by decide) 6 _⟩⟩
   ·
    as_aux_lemma =>
     obtain rfl : i = t.f3.length := by omega
     have hatt : attsT t.f3 (sp0T S) [] = some (sp, ks) := by rw [← HAT.out, List.drop_length]; rfl
     have hksl := HKL.out.1
     clear HAT HK HKL HTA HT
     obtain ⟨X, hX⟩ : ∃ X, D.splitT t.f1.data.toList = X := ⟨_, rfl⟩
     obtain ⟨xp, xl, xg⟩ := X
     have HO := Lib.hid ((open_calc hatt hX).symm.trans HRR.out)
     have hlp : xp.length ≤ 1048576 ∧ xl.length ≤ 1048576 := by
      have hs0 := ht1
      rw [Lib.size_eq] at hs0
      rcases col_cases t.f1.data.toList with ⟨_, _, h3⟩ | ⟨a, b, e, _, _, _, h3⟩
      ·
       rw [h3] at hX; cases hX; exact ⟨Nat.zero_le _, hs0⟩
      ·
       rw [h3] at hX; cases hX
       rw [e] at hs0
       simp at hs0
       omega
     have HX := Lib.hid hX
     clear hX hatt HRR
     have hk1 := crow 1 (Value.string t.f1) HFr.out.tok
     go_wp2_with fail
     refine (D.split_any t.f1 _ (by omega) (HG0.out.below HBr.out.low)).mono ?_
     rintro e w2 ⟨rfl, hb2⟩
     rw [HX.out]
     have HF2 := Lib.hid (HFr.out.below hb2)
     have HB2 := Lib.hid (HBr.out.step hb2)
     clear hk1 hb2 HFr HBr
     obtain ⟨_, kvn, mn, hnh, hRn, hMn⟩ := HF2.out.nod
     have HMn := Lib.hid hMn
     have hp0 := crow 0 (Value.pointer (some ⟨gn, 0, none⟩)) HF2.out.ptr
     have hc4 := crow 4 (Value.map (some mn)) hnh
     clear hnh hRn hMn
     go_wp2_with fail
     refine (space_any _ gp gn mn w0.heap.size sp ⟨xp.toArray⟩ hp0 hc4 HMn.out (by show xp.length ≤ _; exact hlp.1)).mono ?_
     rintro e w3 ⟨rfl, hb3⟩
     have HF3 := Lib.hid (HF2.out.below hb3)
     have HB3 := Lib.hid (HB2.out.step hb3)
     clear hp0 hc4 HMn hb3 HF2 HB2
     have hsx : (⟨xp.toArray⟩ : ByteArray).data.toList = xp := rfl
     rw [hsx]
     clear hsx
     obtain ⟨isB, hisB⟩ : ∃ z, ((spGet sp xp).isSome || xp.isEmpty) = z := ⟨_, rfl⟩
     rw [hisB]
     rw [hisB] at HO
     have hinn : (⟨((spGet sp xp).getD []).toArray⟩ : ByteArray) = inT sp xp := rfl
     rw [hinn]
     clear hinn hisB
     generalize inT sp xp = inn at HO ⊢
     have hd5 := crow 5 (Value.bool S.done) HF3.out.rep.box
     cases xg with
     | false =>
      obtain rfl : R = (S, 23) := by rw [← HO.out]; exact if_pos (.inl rfl)
      go_wp2_with fail
      go_ret
      exact ⟨rfl, HB3.out⟩
     | true =>
      cases isB with
      | false =>
       obtain rfl : R = (S, 23) := by rw [← HO.out]; exact if_pos (.inr (.inl rfl))
       go_wp2_with fail
       go_ret
       exact ⟨rfl, HB3.out⟩
      | true =>
       cases hdn : S.done with
       | true =>
        obtain rfl : R = (S, 23) := by rw [← HO.out]; exact if_pos (.inr (.inr hdn))
        rw [hdn] at hd5
        have HDN := Lib.hid hdn
        clear hdn
        go_wp2_with fail
        go_ret
        exact ⟨rfl, HB3.out⟩
       | false =>
        have hO := HO.out
        rw [if_neg (by rintro (h | h | h); cases h; cases h; rw [hdn] at h; cases h)] at hO
        rw [hdn] at hd5
        have HDN := Lib.hid hdn
        have HO := Lib.hid hO
        clear hO hdn
        have hb0 := crow 0 (Value.slice A gs.length c) HF3.out.rep.box
        go_upto_if 170 with fail
        go_cut [] (fun wc => Hid ((upT S inn).2 = 0) ∧ Hid (∀ nd ∈ (upT S inn).1.stack, nd.ks.length ≤ 20000) ∧ ∃ lab', Hid (Fly wc w0.heap.size b lab' { (upT S inn).1 with many := S.many + ks.length } gs (.slice A gs.length c) rv gt gp gn #[.int .u8 t.f0, .string t.f1, .string t.f2, .slice A3 t.f3.length c3, .bool t.f4, .int .i64 t.f5] (nd0 t sp ks)) ∧ Hid (Bl w0 wf wc))
        case first =>
         as_aux_lemma =>
          cases hgl : gs.length with
          | zero =>
           have hq : ((gs.length : Int) == 0) = true := by rw [hgl]; rfl
           have hq2 : decide ((gs.length : Int) = 0) = true := by rw [hgl]; rfl
           have hst : S.stack = [] := List.length_eq_zero_iff.1 (by rw [← HSL.out]; exact hgl)
           have hup : upT S inn = ({ S with space := inn }, 0) := by unfold upT; rw [hst]; rfl
           have HGL := Lib.hid hgl
           have HST := Lib.hid hst
           have HUP := Lib.hid hup
           have hy4 := crow 4 (Value.string S.space) HF3.out.rep.box
           have hf4 : w3.frozen? ⟨b, 4, none⟩ = false := frozen_of_row _ _ _ _ _ HF3.out.rep.box
           clear hst hup hgl
           go_wp2_with fail
           go_meet
           case rel =>
            rw [HUP.out]
            exact ⟨rfl, fun nd hnd => (HSZ.out nd hnd).1, lab2, HF3.out.set_box 4 (.string inn) (by simp) rfl rfl, HB3.out.set hGB HF3.out.rep.box (by decide) 4 _⟩
          | succ k =>
           as_aux_lemma =>
            obtain ⟨r, c', g, nd, hv, hkc, ht0, hg, hnd, hlast⟩ := HF3.out.rep.top k hgl
            rw [← hgl] at hv
            cases hv
            have hq : ((gs.length : Int) == 0) = false := by rw [hgl]; simp; omega
            have hup : upT S inn = ({ S with stack := S.stack.set k { nd with hask := true } }, if blankL nd.said.data.toList then 0 else 23) := by
             unfold upT
             rw [show S.stack.getLast? = some nd from hlast]
             simp only
             rw [show S.stack.length - 1 = k by have := HSL.out; omega]
            have HUP := Lib.hid hup
            have hk1 : decide ((k : Int) < (gs.length : Int)) = true := decide_eq_true (by omega)
            have hk2 : (0 : Int) ≤ (k : Int) := by omega
            have hk3 : (k : Int) < (gs.length : Int) := by omega
            have hw1 : wrap64 ((gs.length : Int) - 1) = (k : Int) := by unfold wrap64; omega
            have hw2 : IntKind.i64.wrap ((gs.length : Int) - 1) = (k : Int) := by simp only [i64_w]; exact hw1
            have hns : nd.said.size ≤ 17592186044416 := (HSZ.out nd (List.mem_of_getElem? hnd)).2
            have HND : Hid (S.stack[k]? = some nd) := hnd
            have HLA := Lib.hid hlast
            have HG := Lib.hid hg
            clear hnd hlast hg
            have HGL := Lib.hid hgl
            clear hup hgl hkc
            go_wp2_with fail
            go_quiet (fail)
            have hbd := pw_below_drewN (Below.refl w3.heap.size w3) nq
            have HF4 := Lib.hid (HF3.out.below hbd)
            have HB4 := Lib.hid (HB3.out.step hbd)
            clear hb0 hd5 ht0 hbd HF3 HB3 hq hk1 hk2 hk3 hw1 hw2
            generalize w3.drewN nq = wd at HF4 HB4 ⊢
            obtain ⟨n1, kv, m, hh, hRk, hMp⟩ := HF4.out.rep.nodes k g nd HG.out HND.out
            have hy6 := crow 6 (Value.bool nd.hask) hh
            have hy5 := crow 5 (Value.string nd.said) hh
            have hf6 : wd.frozen? ⟨g, 6, none⟩ = false := frozen_of_row _ _ _ _ _ hh
            have HF5 := Lib.hid (HF4.out.set_node (S' := { S with stack := S.stack.set k { nd with hask := true }, many := S.many + ks.length }) k g nd { nd with hask := true } HG.out HND.out 6 (.bool true) rfl (fun kv m => by simp) rfl rfl)
            have HB5 := Lib.hid (HB4.out.set n1 hh (by decide) 6 (.bool true))
            clear hRk hMp hh HF4 HB4
            go_wp2_with fail
            refine (text_Blank.calls nd.said (blankL nd.said.data.toList) _ (by unfold text_Blank.f; rw [if_pos (by omega)]; rfl) (HG0.out.below HB5.out.low)).mono ?_
            rintro e w5 ⟨rfl, hb5⟩
            have HF6 := Lib.hid (HF5.out.below hb5)
            have HB6 := Lib.hid (HB5.out.step hb5)
            clear hy6 hy5 hf6 hb5 HF5 HB5
            cases hbl : blankL nd.said.data.toList with
            | false =>
             obtain rfl : R = (S, 23) := by rw [← HO.out]; exact if_pos (by rw [HUP.out, hbl]; simp)
             have HBL := Lib.hid hbl
             clear hbl
             dsimp only
             go_wp2_with fail
             go_ret
             first | exact ⟨rfl, HB6.out⟩ | exact ⟨rfl, HB6.out, fun h => by cases h⟩
            | true =>
             have HBL := Lib.hid hbl
             clear hbl
             dsimp only
             go_wp2_with fail
             go_meet
             case rel =>
              rw [HUP.out, HBL.out]
              refine ⟨rfl, fun nd2 hnd2 => ?_, lab2, HF6, HB6⟩
              rcases List.mem_or_eq_of_mem_set hnd2 with h | h
              ·
               exact (HSZ.out nd2 h).1
              ·
               rw [h]; exact (HSZ.out nd (List.mem_of_getElem? HND.out)).1
        case rest =>
         obtain ⟨HU2, HKS, lab3, HF4, HB4⟩ := hcut
         clear hb0 hd5 HF3 HB3
         have HUL := Lib.hid (up_len S inn)
         obtain ⟨UU, hUU⟩ : ∃ U, upT S inn = U := ⟨_, rfl⟩
         rw [hUU] at HO HU2 HKS HF4 HUL
         obtain ⟨U, u2⟩ := UU
         simp only at HO HU2 HKS HF4 HUL
         have hO := HO.out
         rw [if_neg (fun h => h HU2.out)] at hO
         clear hUU HU2 HO
         have hN1 : S.many + ks.length ≤ 21000 := by omega
         obtain ⟨N, hN⟩ : ∃ N : Nat, S.many + ks.length = N := ⟨_, rfl⟩
         rw [hN] at HF4 hO hN1
         clear hN
         have hb0 := crow 0 (Value.slice A gs.length c) HF4.out.rep.box
         have hb4 := crow 4 (Value.string U.space) HF4.out.rep.box
         have hb6 := crow 6 (Value.int .i64 (N : Int)) HF4.out.rep.box
         have hf6 : wc.frozen? ⟨b, 6, none⟩ = false := frozen_of_row _ _ _ _ _ HF4.out.rep.box
         have HB5 := Lib.hid (HB4.out.set hGB HF4.out.rep.box (by decide) 6 (.int .i64 ((N : Int) + 1)))
         by_cases c1 : inn ≠ U.space
         ·
          obtain rfl : R = (S, 24) := by rw [← hO]; exact if_pos c1
          obtain ⟨z1, z2⟩ := ba_ne c1
          clear hO c1
          go_wp2_with fail
          go_ret
          exact ⟨rfl, HB5.out⟩
         ·
          rw [if_neg c1] at hO
          obtain rfl : inn = U.space := Classical.byContradiction c1
          have z1 : (U.space.toList != U.space.toList) = false := by unfold bne; simp
          have z2 : (U.space.toList == U.space.toList) = true := by simp
          clear c1
          by_cases c2 : S.stack.length = 64
          ·
           obtain rfl : R = (S, 4) := by rw [← hO]; exact if_pos c2
           have y1 : ((gs.length : Int) == 64) = true := by rw [HSL.out, c2]; rfl
           clear hO c2
           go_wp2_with fail
           go_ret
           exact ⟨rfl, HB5.out⟩
          ·
           rw [if_neg c2] at hO
           have hg64 : gs.length ≤ 63 := by have := HSL.out; omega
           have y1 : ((gs.length : Int) == 64) = false := by simp; omega
           clear c2
           by_cases c3 : N + 1 > 20000
           ·
            obtain rfl : R = (S, 3) := by rw [← hO]; exact if_pos c3
            have y2 : decide ((20000 : Int) < (N : Int) + 1) = true := decide_eq_true (by omega)
            clear hO
            go_wp2_with fail
            go_ret
            exact ⟨rfl, HB5.out⟩
           ·
            as_aux_lemma =>
             rw [if_neg c3] at hO
             have y2 : decide ((20000 : Int) < (N : Int) + 1) = false := decide_eq_false (by omega)
             have HO := Lib.hid hO
             clear hO
             have HF5 := Lib.hid (HF4.out.set_box (S' := { U with many := N + 1 }) 6 (.int .i64 ((N : Int) + 1)) (by simp) rfl rfl)
             obtain ⟨_, kvn, mn, hnh, hRn, hMn⟩ := HF5.out.nod
             have hp0 := crow 0 (Value.pointer (some ⟨gn, 0, none⟩)) HF5.out.ptr
             have hn0 := crow 0 (Value.string ⟨#[]⟩) hnh
             have hnf : (wc.setCell ⟨b, 6, none⟩ (.int .i64 ((N : Int) + 1))).frozen? ⟨gn, 0, none⟩ = false := frozen_of_row _ _ _ _ _ hnh
             obtain ⟨lab5, hF6⟩ := HF5.out.named ⟨xl.toArray⟩
             have HF6 := Lib.hid hF6
             have HB6 := Lib.hid (HB5.out.set hn2 hnh (by decide) 0 (.string ⟨xl.toArray⟩))
             clear hRn hMn hnh hF6 HF4 HB4
             go_wp2_with fail
             clear hb4 hb6 hf6 hp0 hn0 hnf HF5 y1 y2 z1 z2
             have hbd := below_drew (Below.refl ((wc.setCell ⟨b, 6, none⟩ (.int .i64 ((N : Int) + 1))).setCell ⟨gn, 0, none⟩ (.string ⟨xl.toArray⟩)).heap.size ((wc.setCell ⟨b, 6, none⟩ (.int .i64 ((N : Int) + 1))).setCell ⟨gn, 0, none⟩ (.string ⟨xl.toArray⟩)))
             have HF7 := Lib.hid (HF6.out.below hbd)
             have HB7 := Lib.hid (HB6.out.step hbd)
             clear hbd HF6 HB6 hb0 HB5
             have s41 : ((wc.setCell ⟨b, 6, none⟩ (.int .i64 ((N : Int) + 1))).setCell ⟨gn, 0, none⟩ (.string ⟨xl.toArray⟩)).drew.cell? ⟨b, 0, none⟩ = some (.slice A gs.length c) ∧ ((wc.setCell ⟨b, 6, none⟩ (.int .i64 ((N : Int) + 1))).setCell ⟨gn, 0, none⟩ (.string ⟨xl.toArray⟩)).drew.cell? ⟨gp, 0, none⟩ = some (.pointer (some ⟨gn, 0, none⟩)) := ⟨(cell_of_row _ _ 0 _ _ _ HF7.out.rep.box).trans rfl, (cell_of_row _ _ 0 _ _ _ HF7.out.ptr).trans rfl⟩
             refine start_ (n := 11) (S := fun w' => w'.cell? ⟨b, 0, none⟩ = some (.slice A gs.length c) ∧ w'.cell? ⟨gp, 0, none⟩ = some (.pointer (some ⟨gn, 0, none⟩))) (ds := [10]) (ms5 0 11) (by kernel_rfl) rfl rfl s41 (fun hHeld => ?_)
             refine with_tabW op41tab op41bits (fun HT_ HW_ => ?_)
             generalize ((wc.setCell ⟨b, 6, none⟩ (.int .i64 ((N : Int) + 1))).setCell ⟨gn, 0, none⟩ (.string ⟨xl.toArray⟩)).drew = w7 at HF7 HB7 s41 hHeld ⊢
             refine pure_ (i := 0) (N := some 228) (v := ?_) (a' := ?_) (ms5 1 10) rfl rfl (any_of HT_.out (by kernel_rfl)) (fun _ _ _ h => h) (Or.inl ⟨by rfl, ?_⟩) ?_ ?_
             rotate_left
             ·
              intro w'
              go_simp
              with_reducible rfl
             rotate_left
             ·
              go_simp
              rfl
             refine pure_ (i := 1) (N := some 229) (v := ?_) (a' := ?_) (ms5 2 9) rfl rfl (any_of HT_.out (by kernel_rfl)) (fun _ _ _ h => h) (Or.inl ⟨by rfl, ?_⟩) ?_ ?_
             rotate_left
             ·
              intro w'
              go_simp
              with_reducible rfl
             rotate_left
             ·
              go_simp
              rfl
             refine pure_ (i := 2) (N := some 230) (v := ?_) (a' := ?_) (ms5 3 8) rfl rfl (any_of HT_.out (by kernel_rfl)) (fun _ _ _ h => h) (Or.inl ⟨by rfl, ?_⟩) ?_ ?_
             rotate_left
             ·
              intro w'
              go_simp
              with_reducible rfl
             rotate_left
             ·
              go_simp
              rfl
             refine pure_ (i := 3) (N := some 231) (v := ?_) (a' := ?_) (ms5 4 7) rfl rfl (any_of HT_.out (by kernel_rfl)) (fun _ _ _ h => h) (Or.inl ⟨by rfl, ?_⟩) ?_ ?_
             rotate_left
             ·
              intro w'
              go_simp
              with_reducible rfl
             rotate_left
             ·
              go_simp
              rfl
             refine take_ (i := 4) (N := some 232) (v := ?_) (a' := ?_) (ms5 5 6) rfl rfl (take_ofW HT_.out HW_.out (by kernel_rfl)) (fun _ _ _ h => h) (Or.inl ⟨by rfl, ?_⟩) hHeld ?_ ?_
             rotate_left
             ·
              rintro w' ⟨s0, s1⟩
              go_simp
              with_reducible rfl
             rotate_left
             ·
              go_simp
              rfl
             refine take_ (i := 5) (N := some 233) (v := ?_) (a' := ?_) (ms5 6 5) rfl rfl (take_ofW HT_.out HW_.out (by kernel_rfl)) (fun _ _ _ h => h) (Or.inl ⟨by rfl, ?_⟩) hHeld ?_ ?_
             rotate_left
             ·
              rintro w' ⟨s0, s1⟩
              go_simp
              with_reducible rfl
             rotate_left
             ·
              go_simp
              rfl
             refine one_ (i := 6) (N := some 234) (ms5 7 4) rfl rfl (one_of HT_.out (by kernel_rfl)) (by decide) (fun K hK => ?_)
             refine value_ (w1 := ?_) (v := ?_) (by rfl) rfl ?_ ?_
             rotate_left 2
             ·
              go_simp
              constructor
              ·
               rfl
              ·
               rfl
             have hba := below_alloc (Below.refl w7.heap.size w7)
             refine hK.out _ _ ⟨cellB (hba _) hHeld.1, cellB (hba _) hHeld.2⟩ (fun _ => ?_)
             clear hK K hba
             refine norm_ (a' := ?_) ?_ ?_
             rotate_left
             ·
              show Act.put _ (some 234) _ = _
              go_simp
              rfl
             refine one_ (i := 7) (N := some 235) (ms5 8 3) rfl rfl (one_of HT_.out (by kernel_rfl)) (by decide) (fun K hK => ?_)
             refine step_append_cells (w0 := w0) (W := w7) w0.heap.size (by rfl) (.tmp 232) (.tmp 234) 111 192 (.pointer none) 1 8 rfl Tryz.underlying111 info192 rfl (by decide) (by decide) (.slice A gs.length c) gs.length (gs.map ptrE) [ptrE gn] rfl rfl rfl (fun u hu => by rw [List.mem_singleton] at hu; subst hu; rfl) HF7.out.rep.row HB7.out.low HB7.out.low.size (by omega) ?_
             intro v8 w8 ho8 hb8 hg8 hat8
             obtain ⟨A8, c8, rfl⟩ := own_slice ho8
             have HO8 := Lib.hid ho8
             have HG8 := Lib.hid hg8
             have HB8 : Hid (Bl w0 wf w8) := Lib.hid ⟨hb8, K44.grown HB7.out.2 hg8 (fun k c e h => own_ne HF7.out.rep.row h (by decide) e.symm)⟩
             have hbx8 := blk_grown HF7.out.rep.box hg8 (own_ne HF7.out.rep.row HF7.out.rep.box (by decide))
             have hp8 := blk_grown HF7.out.ptr hg8 HF7.out.prow
             have ht8 := blk_grown HF7.out.tok hg8 (own_ne HF7.out.rep.row HF7.out.tok (by decide))
             refine hK.out _ _ ⟨(cell_of_row _ _ 0 _ _ _ hbx8).trans rfl, (cell_of_row _ _ 0 _ _ _ hp8).trans rfl⟩ (fun _ => ?_)
             clear hK K ho8 hb8 hg8 hat8
             refine norm_ (a' := ?_) ?_ ?_
             rotate_left
             ·
              show Act.put _ (some 235) _ = _
              go_simp
              rfl
             refine pure_ (i := 8) (N := some 236) (v := ?_) (a' := ?_) (ms5 9 2) rfl rfl (any_of HT_.out (by kernel_rfl)) (fun _ _ _ h => h) (Or.inl ⟨by rfl, ?_⟩) ?_ ?_
             rotate_left
             ·
              intro w'
              go_simp
              with_reducible rfl
             rotate_left
             ·
              go_simp
              rfl
             refine pure_ (i := 9) (N := some 237) (v := ?_) (a' := ?_) (ms5 10 1) rfl rfl (any_of HT_.out (by kernel_rfl)) (fun _ _ _ h => h) (Or.inl ⟨by rfl, ?_⟩) ?_ ?_
             rotate_left
             ·
              intro w'
              go_simp
              with_reducible rfl
             rotate_left
             ·
              go_simp
              rfl
             refine last_ (i := 10) (N := none) (ms5 11 0) rfl rfl (one_of HT_.out (by kernel_rfl)) (by decide) (fun K hK => ?_)
             have y0 := crow 0 (Value.slice A gs.length c) hbx8
             have fy0 := frozen_of_row _ b 0 _ _ hbx8
             refine skip_ (w1 := ?_) (by rfl) rfl ?_ ?_
             rotate_left
             ·
              go_simp
              rfl
             refine hK.out _ _ ?_
             clear hK K
             refine done_ (done_of HT_.out (by kernel_rfl)) ?_
             clear HT_ HW_
             have HP9 := Lib.hid (HF7.out.push _ HO8.out HG8.out)
             have HB9 := Lib.hid (HB8.out.set hGB hbx8 (by decide) 0 (.slice A8 (gs.length + 1) c8))
             have HTK := Lib.hid ((Below.heap_setCell w8 ⟨b, 0, none⟩ (.slice A8 (gs.length + 1) c8) gt (blk_ne ht8 hbx8 (by decide))).trans ht8)
             clear y0 fy0 hbx8 hp8 ht8 HO8 HG8 HB8 s41 HF7 HB7 hHeld
             generalize w8.setCell ⟨b, 0, none⟩ (.slice A8 (gs.length + 1) c8) = w9 at HP9 HB9 HTK ⊢
             have hk4 := crow 4 (Value.bool t.f4) HTK.out
             cases hself : t.f4 with
             | false =>
              have hR := HO.out
              rw [if_neg (by rw [hself]; decide)] at hR
              subst hR
              rw [hself] at hk4
              have HSE := Lib.hid hself
              clear hself
              go_wp2_with fail
              go_ret
              first | exact ⟨rfl, HB9.out, _, _, _, _, HP9.out⟩ | exact ⟨rfl, HB9.out, fun _ => ⟨_, _, _, _, HP9.out⟩⟩
             | true =>
              have hR := HO.out
              rw [if_pos hself] at hR
              rw [hself] at hk4
              have HSE := Lib.hid hself
              have HR9 := Lib.hid hR
              clear hself hR
              have hk1 := crow 1 (Value.string t.f1) HTK.out
              go_wp2_with fail
              refine (close_any w0 wf _ b lab5 _ (gs ++ [gn]) _ rv t.f1 HP9.out (fun nd hnd => ?_) (by simp; omega) HG0.out HB9.out).mono ?_
              ·
               rcases List.mem_append.1 hnd with hnd | hnd
               ·
                exact HKS.out nd hnd
               ·
                rw [List.mem_singleton] at hnd
                subst hnd
                show ks.length ≤ 20000
                omega
              rintro e w12 ⟨rfl, hb12, hp12⟩
              have HP12 := Lib.hid hp12
              clear hp12
              dsimp only
              go_wp2_with fail
              go_ret
              rw [← HR9.out]
              exact ⟨rfl, hb12, HP12.out⟩
end Go.Proofs.YtknfpggiigncpaaGreatDoor.T
