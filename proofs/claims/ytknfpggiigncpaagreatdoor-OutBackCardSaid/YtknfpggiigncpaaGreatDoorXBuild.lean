/- strings.Replacer.build, at text.Escape's arguments. -/
import Derived.Test.YtknfpggiigncpaaGreatDoorXRepl
import Derived.Lib.LazyBuf
set_option linter.unusedVariables false
set_option linter.unusedSimpArgs false
namespace Go.Proofs.YtknfpggiigncpaaGreatDoor.P
open Go.RowKit YtknfpggiigncpaaGreatDoorW.PrintWords
def Args (g : Nat) (w : World) : Prop := ∀ k (h : k < 8), w.cell? ⟨g, 14 - 2 * k, none⟩ = some (.string ⟨#[keys8[k]]⟩) ∧ w.cell? ⟨g, 15 - 2 * k, none⟩ = some (.string ⟨(escByte keys8[k]).toArray⟩)
theorem Args.below {g : Nat} {w W : World} (h : Args g w) (hb : Below w.heap.size w W) : Args g W := fun k hk => ⟨cellBelow hb (h k hk).1, cellBelow hb (h k hk).2⟩
def EntB (m : Option (List UInt8)) (rb o : Nat) (w : World) : Prop := match m with
 | none => w.cell? ⟨rb, o, none⟩ = some (.slice none 0 0)
 | some n => ∃ g cap, rb < g ∧ w.cell? ⟨rb, o, none⟩ = some (.slice (some ⟨g, 0, none⟩) n.length cap) ∧ ∀ j v, (n.map fun b => Value.int .u8 (b.toNat : Int))[j]? = some v → w.cell? ((⟨g, 0, none⟩ : Addr).add j) = some v
structure BldAt (R G k : Nat) (w : World) : Prop where
 row : ∃ cur : Array Value, w.heap[R]? = some (.cells cur 218 (0, 0)) ∧ cur.size = 257 ∧ cur[256]? = some (.slice (some ⟨G, 0, none⟩) k 8) ∧
  ∀ o : Nat, o < 256 → EntB (if (UInt8.ofNat o) ∈ keys8.take k then repOf (UInt8.ofNat o) else none) R o w
 own : ∃ c2 : Array Value, w.heap[G]? = some (.cells c2 9 (0, 0)) ∧ c2.size = 8 ∧ ∀ i (h : i < 8), i < k → c2[i]? = some (.string ⟨#[keys8[i]]⟩)
theorem escByte_two (b : UInt8) (h : b ∈ keys8) : 2 ≤ (escByte b).length := by
 revert b
 decide
theorem zero218 : Tryz.zeroCells218.toList = List.replicate 257 (.slice none 0 0) := by kernel_rfl
theorem bld_start (w : World) (R G : Nat) (z0 : Array Value) (hz : z0.toList = List.replicate 8 (.string ⟨#[]⟩)) (hG : w.heap.size = G) (hR : G + 1 = R) :
  ∃ w4, (storeCells ⟨R, 0, none⟩ (Tryz.zeroCells218.toList.set 256 (Value.slice (some ⟨G, 0, none⟩) 0 8))).run Tryz.prog ((w.alloc (.cells z0 9)).alloc (.cells Tryz.zeroCells218 218)) = .ok () w4 ∧ BldAt R G 0 w4 ∧ Below w.heap.size w w4 := by
 subst hG
 subst hR
 have hg : ((w.alloc (.cells z0 9)).alloc (.cells Tryz.zeroCells218 218)).heap[w.heap.size + 1]? = some (.cells Tryz.zeroCells218 218 (0, 0)) := by
  have := (Go.MapKept.heap_alloc (w.alloc (.cells z0 9)) (.cells Tryz.zeroCells218 218)).1
  rwa [show (w.alloc (.cells z0 9)).heap.size = w.heap.size + 1 by simp] at this
 have hl : Tryz.zeroCells218.size = 257 := by rw [← Array.length_toList, zero218, List.length_replicate]
 have hst := run_storeCells_from (P := Tryz.prog) (w.heap.size + 1) 218 (Tryz.zeroCells218.toList.set 256 (Value.slice (some ⟨w.heap.size, 0, none⟩) 0 8)) 0 Tryz.zeroCells218 _ hg (by simp) (by
  intro v hv
  rw [zero218] at hv
  rcases List.mem_or_eq_of_mem_set hv with h | h
  ·
   rw [(List.mem_replicate.1 h).2]; rfl
  ·
   rw [h]; rfl)
 refine ⟨_, hst, ?_, ?_⟩
 ·
  have hrow := setRow_heap ((w.alloc (.cells z0 9)).alloc (.cells Tryz.zeroCells218 218)) (w.heap.size + 1) Tryz.zeroCells218 ((Tryz.zeroCells218.toList.take 0 ++ Tryz.zeroCells218.toList.set 256 (Value.slice (some ⟨w.heap.size, 0, none⟩) 0 8)).toArray) 218 (0, 0) hg
  refine ⟨⟨_, hrow, by simp [hl], by simp [hl], fun o ho => ?_⟩, ?_⟩
  ·
   show World.cell? _ _ = _
   rw [cell_of_row _ _ _ _ _ _ hrow]
   rw [List.getElem?_toArray, List.take_zero, List.nil_append, List.getElem?_set_ne (by omega), zero218, List.getElem?_replicate, if_pos (by omega)]
  ·
   refine ⟨z0, ?_, by rw [← Array.length_toList, hz]; rfl, fun i _ hi => by omega⟩
   rw [setRow_other _ _ _ _ (by omega)]
   have h1 := (Go.MapKept.heap_alloc w (.cells z0 9)).1
   exact ((Below.refl _ _).alloc (Nat.le_refl _) _).block _ (by simp) |>.trans h1
 ·
  exact (((Below.refl _ _).alloc (Nat.le_refl _) _).alloc (by simp) _).trans ⟨rfl, rfl, rfl, by simp [World.setRow], fun k hk => setRow_other _ _ _ _ (by omega)⟩
theorem cell_congr {w W : World} {a : Addr} (h : W.heap[a.block]? = w.heap[a.block]?) : W.cell? a = w.cell? a := by
 unfold World.cell?
 rw [h]
theorem take_succ_mem (k : Nat) (hk : k < 8) (c : UInt8) : c ∈ keys8.take (k + 1) ↔ c ∈ keys8.take k ∨ c = keys8[k]'hk := by
 rw [List.take_add_one, List.getElem?_eq_getElem (show k < keys8.length from hk), List.mem_append]
 simp only [Option.toList_some, List.mem_singleton]
 exact Iff.rfl
theorem bld_step {wr : World} {R G k : Nat} (cap : Nat) (b : UInt8) (t : ByteArray) (o1 o2 : Obj) (fr : Nat × Nat) (h : BldAt R G k wr) (hR : R = G + 1) (hk : k < 8) (hb : keys8[k]'hk = b) (ht : (⟨(escByte b).toArray⟩ : ByteArray) = t) :
  BldAt R G (k + 1) ((((((wr.setCell ⟨G, k, none⟩ (.string ⟨#[b]⟩)).setCell ⟨R, 256, none⟩ (.slice (some ⟨G, 0, none⟩) (k + 1) 8)).setCell ⟨R, b.toNat, none⟩ (.slice (some ⟨wr.heap.size + 1 + 1, 0, none⟩) t.size cap)).alloc o1).alloc o2).alloc (.cells (bytesRow t cap) 5 fr)).drew := by
 obtain ⟨⟨cur, hrow, hsz, h256, hent⟩, ⟨c2, hc2, hs2, hk2⟩⟩ := h
 have hRlt : R < wr.heap.size := (Array.getElem?_eq_some_iff.1 hrow).1
 obtain ⟨w3, hw3⟩ : ∃ w3, (((wr.setCell ⟨G, k, none⟩ (.string ⟨#[b]⟩)).setCell ⟨R, 256, none⟩ (.slice (some ⟨G, 0, none⟩) (k + 1) 8)).setCell ⟨R, b.toNat, none⟩ (.slice (some ⟨wr.heap.size + 1 + 1, 0, none⟩) t.size cap)) = w3 := ⟨_, rfl⟩
 have hGR : G ≠ R := by omega
 have r1 : (wr.setCell ⟨G, k, none⟩ (.string ⟨#[b]⟩)).heap[R]? = some (.cells cur 218 (0, 0)) := (heap_setCell_other _ _ _ _ (fun e => hGR e.symm)).trans hrow
 have r2 := heap_setCell_same _ R 256 _ _ (.slice (some ⟨G, 0, none⟩) (k + 1) 8) r1
 have r3 := heap_setCell_same _ R b.toNat _ _ (.slice (some ⟨wr.heap.size + 1 + 1, 0, none⟩) t.size cap) r2
 rw [hw3] at r3
 have q1 := heap_setCell_same wr G k _ _ (.string ⟨#[b]⟩) hc2
 have q3 : w3.heap[G]? = some (.cells (c2.setIfInBounds k (.string ⟨#[b]⟩)) 9 (0, 0)) := by
  rw [← hw3]
  exact (heap_setCell_other _ _ _ _ hGR).trans ((heap_setCell_other _ _ _ _ hGR).trans q1)
 have hs3 : w3.heap.size = wr.heap.size := by rw [← hw3]; simp
 have hoth : ∀ q, q ≠ G → q ≠ R → w3.heap[q]? = wr.heap[q]? := fun q h1 h2 => by
  rw [← hw3]
  exact (heap_setCell_other _ _ _ _ h2).trans ((heap_setCell_other _ _ _ _ h2).trans (heap_setCell_other _ _ _ _ h1))
 rw [hw3]
 have hbel : Below w3.heap.size w3 (((w3.alloc o1).alloc o2).alloc (.cells (bytesRow t cap) 5 fr)).drew :=
  (((Below.refl _ _).alloc (Nat.le_refl _) _).alloc (by simp) _).alloc (by simp; omega) _ |>.trans ⟨rfl, rfl, rfl, Nat.le_refl _, fun _ _ => rfl⟩
 have hlast : (((w3.alloc o1).alloc o2).alloc (.cells (bytesRow t cap) 5 fr)).drew.heap[wr.heap.size + 1 + 1]? = some (.cells (bytesRow t cap) 5 fr) := by
  have := (Go.MapKept.heap_alloc ((w3.alloc o1).alloc o2) (.cells (bytesRow t cap) 5 fr)).1
  rwa [show ((w3.alloc o1).alloc o2).heap.size = wr.heap.size + 1 + 1 by simp [hs3]] at this
 obtain ⟨W, hW⟩ : ∃ W, (((w3.alloc o1).alloc o2).alloc (.cells (bytesRow t cap) 5 fr)).drew = W := ⟨_, rfl⟩
 rw [hW] at hbel hlast ⊢
 have R3 := (hbel.block R (by omega)).trans r3
 have Q3 := (hbel.block G (by omega)).trans q3
 have hlt : b.toNat < 256 := b.toNat_lt
 refine ⟨⟨_, R3, by simp [hsz], ?_, fun o ho => ?_⟩, ⟨_, Q3, by simp [hs2], fun i hi hik => ?_⟩⟩
 ·
  rw [Array.getElem?_setIfInBounds_ne (by omega), Array.getElem?_setIfInBounds_self_of_lt (by omega)]
 ·
  have hcell : W.cell? ⟨R, o, none⟩ = _ := cell_of_row W R o _ _ _ R3
  by_cases hob : o = b.toNat
  ·
   subst hob
   rw [UInt8.ofNat_toNat, if_pos ((take_succ_mem k hk b).2 (.inr hb.symm)), keys8_rep b (hb ▸ List.getElem_mem _)]
   refine ⟨wr.heap.size + 1 + 1, cap, by omega, ?_, fun j v hj => ?_⟩
   ·
    rw [hcell, Array.getElem?_setIfInBounds_self_of_lt (by simp; omega), ← ht]
    rfl
   ·
    rw [show ((⟨wr.heap.size + 1 + 1, 0, none⟩ : Addr).add j) = ⟨wr.heap.size + 1 + 1, j, none⟩ by simp [Addr.add]; omega, cell_of_row _ _ _ _ _ _ hlast, ← ht]
    unfold bytesRow
    have hjl : j < (escByte b).length := by
     have := (List.getElem?_eq_some_iff.1 hj).1
     simpa using this
    rw [Array.getElem?_append_left (by simpa using hjl)]
    simpa using hj
  ·
   have hne : UInt8.ofNat o ≠ b := fun e => hob (by rw [← e]; simp; omega)
   have hiff : (UInt8.ofNat o ∈ keys8.take (k + 1)) = (UInt8.ofNat o ∈ keys8.take k) := by
    rw [eq_iff_iff, take_succ_mem k hk, hb]
    exact ⟨fun h => h.resolve_right hne, .inl⟩
   have hold := hent o ho
   have hc : W.cell? ⟨R, o, none⟩ = wr.cell? ⟨R, o, none⟩ := by
    rw [hcell, cell_of_row _ _ _ _ _ _ hrow, Array.getElem?_setIfInBounds_ne (by omega), Array.getElem?_setIfInBounds_ne (by omega)]
   simp only [hiff]
   revert hold
   generalize (if UInt8.ofNat o ∈ keys8.take k then repOf (UInt8.ofNat o) else none) = m
   intro hold
   cases m with
   | none => exact hc.trans hold
   | some n =>
    obtain ⟨g, cap, hg, h1, h2⟩ := hold
    refine ⟨g, cap, hg, hc.trans h1, fun j v hj => ?_⟩
    have h3 := h2 j v hj
    have hgl := World.block_lt_of_cell? wr _ h3
    rw [← h3]
    refine cell_congr ?_
    have e0 : ((⟨g, 0, none⟩ : Addr).add j).block = g := by unfold Addr.add; split <;> rfl
    rw [e0] at hgl ⊢
    rw [hbel.block g (by omega), hoth g (by omega) (by omega)]
 ·
  by_cases hik' : i = k
  ·
   subst hik'
   rw [Array.getElem?_setIfInBounds_self_of_lt (by omega), hb]
  ·
   rw [Array.getElem?_setIfInBounds_ne (by omega)]
   exact hk2 i hi (by omega)
theorem bld_below {w0 wr : World} {B R G k : Nat} (cap sz : Nat) (b : UInt8) (o1 o2 o3 : Obj) (p : Nat) (h : Below B w0 wr) (hB : B ≤ G) (hG : G ≤ R) (hB0 : B ≤ w0.heap.size) :
  Below B w0 ((((((wr.setCell ⟨G, k, none⟩ (.string ⟨#[b]⟩)).setCell ⟨R, 256, none⟩ (.slice (some ⟨G, 0, none⟩) (k + 1) 8)).setCell ⟨R, b.toNat, none⟩ (.slice (some ⟨p, 0, none⟩) sz cap)).alloc o1).alloc o2).alloc o3).drew := by
 have h1 := h.setCell (p := ⟨G, k, none⟩) hB (.string ⟨#[b]⟩)
 have h2 := h1.setCell (p := ⟨R, 256, none⟩) (show B ≤ R by omega) (.slice (some ⟨G, 0, none⟩) (k + 1) 8)
 have h3 := h2.setCell (p := ⟨R, b.toNat, none⟩) (show B ≤ R by omega) (.slice (some ⟨p, 0, none⟩) sz cap)
 generalize (((wr.setCell ⟨G, k, none⟩ (.string ⟨#[b]⟩)).setCell ⟨R, 256, none⟩ (.slice (some ⟨G, 0, none⟩) (k + 1) 8)).setCell ⟨R, b.toNat, none⟩ (.slice (some ⟨p, 0, none⟩) sz cap)) = w3 at h3 ⊢
 have hs3 : B ≤ w3.heap.size := Nat.le_trans hB0 h3.size
 have h4 := h3.alloc hs3 o1
 have h5 := h4.alloc (Nat.le_trans hB0 h4.size) o2
 have h6 := h5.alloc (Nat.le_trans hB0 h5.size) o3
 exact h6.trans ⟨rfl, rfl, rfl, Nat.le_refl _, fun _ _ => rfl⟩
theorem rep_of {R G : Nat} {w : World} (h : BldAt R G 8 w) : Rep R w := by
 obtain ⟨⟨cur, hrow, hsz, h256, hent⟩, ⟨c2, hc2, hs2, hk2⟩⟩ := h
 refine ⟨fun o ho => ?_, G, 8, (cell_of_row _ _ _ _ _ _ hrow).trans h256, fun i hi => (cell_of_row _ _ _ _ _ _ hc2).trans (hk2 i hi hi)⟩
 have he := hent o ho
 have hm : (if UInt8.ofNat o ∈ keys8.take 8 then repOf (UInt8.ofNat o) else none) = repOf (UInt8.ofNat o) := by
  split
  ·
   rfl
  ·
   rename_i hn
   cases hr : repOf (UInt8.ofNat o) with
   | none => rfl
   | some n => exact absurd (rep_keys8 _ (by rw [hr]; rfl)) hn
 rw [hm] at he
 cases hr : repOf (UInt8.ofNat o) with
 | none => rw [hr] at he; exact he
 | some n =>
  rw [hr] at he
  obtain ⟨g, cap, -, h1, h2⟩ := he
  exact ⟨g, cap, h1, h2⟩
theorem BldAt.congr {R G k : Nat} {w W : World} (h : BldAt R G k w) (hR : R = G + 1) (hW : ∀ q, G ≤ q → q < w.heap.size → W.heap[q]? = w.heap[q]?) : BldAt R G k W := by
 obtain ⟨⟨cur, hrow, hsz, h256, hent⟩, ⟨c2, hc2, hs2, hk2⟩⟩ := h
 have hRlt : R < w.heap.size := (Array.getElem?_eq_some_iff.1 hrow).1
 refine ⟨⟨cur, (hW R (by omega) hRlt).trans hrow, hsz, h256, fun o ho => ?_⟩, ⟨c2, (hW G (by omega) (by omega)).trans hc2, hs2, hk2⟩⟩
 have hold := hent o ho
 revert hold
 generalize (if UInt8.ofNat o ∈ keys8.take k then repOf (UInt8.ofNat o) else none) = m
 intro hold
 have hc : W.cell? ⟨R, o, none⟩ = w.cell? ⟨R, o, none⟩ := cell_congr (hW R (by omega) hRlt)
 cases m with
 | none => exact hc.trans hold
 | some n =>
  obtain ⟨g, cap, hg, h1, h2⟩ := hold
  refine ⟨g, cap, hg, hc.trans h1, fun j v hj => ?_⟩
  have h3 := h2 j v hj
  have hgl := World.block_lt_of_cell? w _ h3
  rw [← h3]
  refine cell_congr ?_
  have e0 : ((⟨g, 0, none⟩ : Addr).add j).block = g := by unfold Addr.add; split <;> rfl
  rw [e0] at hgl ⊢
  exact hW g (by omega) hgl
def RepFrom (n rb : Nat) (w : World) : Prop := ∀ W : World, (∀ q, n ≤ q → q < w.heap.size → W.heap[q]? = w.heap[q]?) → Rep rb W
theorem eqlNil (W : World) : (binOp .eql 63 (.slice none 0 0) (.slice none 0 0)).run Tryz.prog W = .ok (.bool true) W := by
 have h : Tryz.prog.underlying 63 = some (.slice 5) := by kernel_rfl
 exact run_eql_slice_nil (P := Tryz.prog) W 63 5 none 0 0 h
theorem keys8_fresh : ∀ k (h : k < 8), keys8[k] ∉ keys8.take k := by decide
set_option maxHeartbeats 4000000 in
set_option maxRecDepth 100000 in
theorem build_any (B g cap : Nat) (w : World) (h2 : w.cell? ⟨B, 4, none⟩ = some (.slice (some ⟨g, 0, none⟩) 16 cap)) (hA : Args g w) :
  Calls Tryz.prog 141 #[.pointer (some ⟨B, 0, none⟩)] w fun e w' => ∃ rb, e = .returned (.iface 219 (.pointer (some ⟨rb, 0, none⟩))) ∧ RepFrom w.heap.size rb w' ∧ Below w.heap.size w w' := by
 have HA := Lib.hid hA
 clear hA
 go_enter Tryz.func141, Tryz.ntmps141
 go_wp2_with fail
 go_loopw [5, 4] (fun v5 v4 wr => ∃ k : Nat, v5 = .int .i64 (2 * k) ∧ k ≤ 8 ∧ v4 = .bool (k == 0) ∧ wr = w) (fun v5 _ _ => 16 - (intOf v5).toNat)
 case atStart => exact ⟨0, rfl, by omega, rfl, rfl⟩
 case round =>
  obtain ⟨k, rfl, hk8, rfl, hwr⟩ := hrel
  rw [hwr]
  clear hwr wr
  by_cases hk : k < 8
  ·
   obtain ⟨a1, a2⟩ := HA.out (7 - k) (by omega)
   rw [show 14 - 2 * (7 - k) = 2 * k by omega] at a1
   rw [show 15 - 2 * (7 - k) = 2 * k + 1 by omega] at a2
   have hlen := escByte_two (keys8[7 - k]'(by show 7 - k < 8; omega)) (List.getElem_mem _)
   have hne : (((escByte (keys8[7 - k]'(by show 7 - k < 8; omega))).length : Int) != 1) = true := by simp; omega
   have hw : IntKind.i64.wrap (2 * (k : Int) + 2) = 2 * k + 2 := wrap_small _ (by omega) (by omega)
   have hw1 : IntKind.i64.wrap (2 * (k : Int) + 1) = 2 * k + 1 := wrap_small _ (by omega) (by omega)
   go_wp2_with fail
   all_goals
    go_roundw
    case rel => exact ⟨k + 1, by simp; omega, by omega, rfl, trivial⟩
    case measure => simp [intOf]; omega
  ·
   obtain rfl : k = 8 := by omega
   obtain ⟨i, hi, hiz, his, hib⟩ : ∃ i, Tryz.prog.info? 9 = some i ∧ i.zero = some (.string ⟨#[]⟩) ∧ i.size = 1 ∧ i.bytes = 16 := by
    have hm : (Tryz.prog.info? 9).map (fun i => (i.zero, i.size, i.bytes)) = some (some (Value.string ⟨#[]⟩), 1, 16) := by kernel_rfl
    cases hq : Tryz.prog.info? 9 with
    | none => rw [hq] at hm; cases hm
    | some i =>
     rw [hq] at hm
     simp at hm
     exact ⟨i, rfl, hm.1, hm.2.1, hm.2.2⟩
   have hmk := run_make (P := Tryz.prog) w 96 9 i (.string ⟨#[]⟩) (by kernel_rfl) hi hiz .i64 .i64 0 8 (by omega) (by omega) (by rw [hib]; omega) (by omega)
   rw [his, show (8 : Int).toNat * 1 = 8 from rfl, show (0 : Int).toNat = 0 from rfl, show (8 : Int).toNat = 8 from rfl] at hmk
   obtain ⟨z0, hz0⟩ : ∃ z0, madeCells (Value.string ⟨#[]⟩).cells 8 = z0 := ⟨_, rfl⟩
   rw [hz0] at hmk
   obtain ⟨w4, hst, hbd, hbl⟩ := bld_start w (w.heap.size + 1) w.heap.size z0 (by rw [← hz0, show (Value.string ⟨#[]⟩).cells = #[.string ⟨#[]⟩] from rfl, toList_madeCells_one]) rfl rfl
   clear hz0
   have Hbd := Lib.hid hbd
   have Hbl := Lib.hid hbl
   clear hbd hbl
   go_wp2_with fail
   go_loopw [12, 13, 14] (fun v12 v13 v14 wq => ∃ k : Nat, v12 = .int .i64 (14 - 2 * k) ∧ k ≤ 8 ∧ Hid (BldAt (w.heap.size + 1) w.heap.size k wq) ∧ Hid (Below w.heap.size w wq)) (fun v12 _ _ _ => (intOf v12 + 2).toNat)
   case atStart => exact ⟨0, rfl, by omega, Hbd, Hbl⟩
   case round =>
    obtain ⟨k, rfl, hk8, hbd, hbl⟩ := hrel
    by_cases hk : k < 8
    ·
     obtain ⟨a1, a2⟩ := (HA.out.below hbl.out) k hk
     obtain ⟨b, hb⟩ : ∃ b, keys8[k]'hk = b := ⟨_, rfl⟩
     rw [hb] at a1 a2
     obtain ⟨t, ht⟩ : ∃ t : ByteArray, (⟨(escByte b).toArray⟩ : ByteArray) = t := ⟨_, rfl⟩
     rw [ht] at a2
     obtain ⟨u, hu⟩ : ∃ u : Nat, u + 2 * k = 14 := ⟨14 - 2 * k, by omega⟩
     rw [show 14 - 2 * k = u by omega] at a1
     rw [show 15 - 2 * k = u + 1 by omega] at a2
     rw [show (14 - 2 * (k : Int)) = (u : Int) by omega]
     have hw1 : IntKind.i64.wrap ((u : Int) + 1) = (u : Int) + 1 := wrap_small _ (by omega) (by omega)
     have hw2 : IntKind.i64.wrap ((u : Int) - 2) = (u : Int) - 2 := by rw [IntKind.wrap_i64]; omega
     have hu1 : (u : Int) < 16 := by omega
     have hu2 : (u : Int) + 1 < 16 := by omega
     have hbb : (b.toNat : Int) < 256 := by have := b.toNat_lt; omega
     obtain ⟨⟨cur, hrow, hsz, h256, hent⟩, ⟨c2, hc2, hs2, hk2⟩⟩ := hbd.out
     have hnm : b ∉ keys8.take k := by
      rw [← hb]
      exact keys8_fresh k hk
     have he := hent b.toNat b.toNat_lt
     rw [UInt8.ofNat_toNat, if_neg hnm] at he
     have he : wr.cell? ⟨w.heap.size + 1, b.toNat, none⟩ = some (.slice none 0 0) := he
     have h6 : wr.cell? ⟨w.heap.size + 1, 256, none⟩ = some (.slice (some ⟨w.heap.size, 0, none⟩) k 8) := (cell_of_row _ _ _ _ _ _ hrow).trans h256
     have f6 := frozen_of_row wr (w.heap.size + 1) 256 _ _ hrow
     have heq : ∀ W : World, (binOp .eql 63 (.slice none 0 0) (.slice none 0 0)).run Tryz.prog W = .ok (.bool true) W := fun W => eqlNil W
     have hcv : (convert 63 9 (.slice (some ⟨wr.heap.size, 0, none⟩) 1 1)).run Tryz.prog (wr.alloc (.cells #[.int .u8 (b.toNat : Int)] 5)) = .ok (.string ⟨#[b]⟩) (wr.alloc (.cells #[.int .u8 (b.toNat : Int)] 5)) :=
      run_convert_bytes_back (P := Tryz.prog) _ 63 9 5 ⟨wr.heap.size, 0, none⟩ 1 [b] (by kernel_rfl) (by kernel_rfl) (by kernel_rfl) (fun j hj => by
       obtain rfl : j = 0 := by simpa using hj
       show World.cell? _ ⟨wr.heap.size, 0, none⟩ = _
       rw [cell_of_row _ _ _ _ _ _ (Go.MapKept.heap_alloc wr _).1]
       rfl)
     have Hent := Lib.hid hent
     have Hrow := Lib.hid hrow
     obtain ⟨x, hcx⟩ : ∃ x, wr.cell? ⟨w.heap.size, k, none⟩ = some x := ⟨c2[k]'(by omega), by rw [cell_of_row _ _ _ _ _ _ hc2, Array.getElem?_eq_getElem]⟩
     have fk := frozen_of_row wr w.heap.size k _ _ hc2
     have fb := frozen_of_row wr (w.heap.size + 1) b.toNat _ _ hrow
     have hRlt : w.heap.size + 1 < wr.heap.size := (Array.getElem?_eq_some_iff.1 hrow).1
     have hGlt : w.heap.size < wr.heap.size := by omega
     have hsb : ∀ W : World, (convert 9 63 (.string t)).run Tryz.prog W = .ok (.slice (some ⟨W.heap.size, 0, none⟩) t.size (grownCap W t.size 0 5)) (W.drew.alloc (.cells (bytesRow t (grownCap W t.size 0 5)) 5 ((bytesRow t (grownCap W t.size 0 5)).size, (bytesRow t (grownCap W t.size 0 5)).size + 1))) := fun W => run_bytes_of_string W 9 63 5 t (by kernel_rfl) (by kernel_rfl) (by kernel_rfl)
     have Hc2 := Lib.hid hc2
     have Hk2 := Lib.hid hk2
     clear hent hrow hc2 hk2 h256
     go_wp2_with fail
     go_roundw
     case rel =>
      refine ⟨k + 1, ?_, by omega, ?_, ?_⟩
      ·
       congr 1; omega
      ·
       exact bld_step _ b t _ _ _ hbd.out rfl hk hb ht
      ·
       exact bld_below _ _ b _ _ _ _ hbl.out (Nat.le_refl _) (Nat.le_succ _) (Nat.le_refl _)
     case measure => simp [intOf]; omega
    ·
     obtain rfl : k = 8 := by omega
     go_wp2_with fail
     go_ret
     exact ⟨w.heap.size + 1, rfl, fun W hW => rep_of (hbd.out.congr rfl hW), hbl.out⟩
end Go.Proofs.YtknfpggiigncpaaGreatDoor.P
