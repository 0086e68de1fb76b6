/- What tree's builder holds: the elements that are open, in memory; and say, walked by hand. -/
import Derived.Test.YtknfpggiigncpaaGreatDoorTr1
import Derived.Test.YtknfpggiigncpaaGreatDoorAx1
import Derived.Maps.OwnSet
import Derived.Maps.StringElems
set_option linter.unusedVariables false
set_option linter.unusedSimpArgs false
namespace Go.Proofs.YtknfpggiigncpaaGreatDoor.T
open Go.RowKit P E YtknfpggiigncpaaGreatDoorW.PrintLast YtknfpggiigncpaaGreatDoorW.PrintMore
open YtknfpggiigncpaaGreatDoorW.PrintWords
structure Nd where
 nm : ByteArray
 tx : ByteArray
 ks : List S24
 name : ByteArray
 sp : List (List UInt8 × List UInt8)
 said : ByteArray
 hask : Bool
structure Bst where
 stack : List Nd
 root : S24
 space : ByteArray
 done : Bool
 many : Nat
def ptrE (g : Nat) : Value := .pointer (some ⟨g, 0, none⟩)
def spD (sp : List (List UInt8 × List UInt8)) : DataW Unit := sp.foldl (fun D x => D.put (.string x.1) (.lit (.string x.2))) (.map [])
def MapAt (W : World) (n0 m : Nat) (sp : List (List UInt8 × List UInt8)) : Prop := n0 ≤ m ∧ ∃ n, n ≤ sp.length ∧ W.ownsMap Tryz.prog 9 (plainElem Tryz.prog 9) m n (spD sp)
def NodeAt (W : World) (n0 : Nat) (ok : Nat → Prop) (g : Nat) (nd : Nd) : Prop :=
 n0 ≤ g ∧ ∃ (kv : Value) (m : Nat), W.heap[g]? = some (.cells #[.string nd.nm, .string nd.tx, kv, .string nd.name, .map (some m), .string nd.said, .bool nd.hask] 195 (0, 0)) ∧ k24.R 24 W n0 ok kv nd.ks ∧ MapAt W n0 m nd.sp
structure Rep (W : World) (n0 b : Nat) (lab : Nat → Nat) (S : Bst) (gs : List Nat) (sv rv : Value) : Prop where
 hb : n0 ≤ b
 box : W.heap[b]? = some (.cells #[sv, .string S.root.f0, .string S.root.f1, rv, .string S.space, .bool S.done, .int .i64 (S.many : Int)] 113 (0, 0))
 row : W.ownsRow n0 192 1 sv gs.length (gs.map ptrE)
 len : gs.length = S.stack.length
 apart : gs.Nodup
 nodes : ∀ i g nd, gs[i]? = some g → S.stack[i]? = some nd → NodeAt W n0 (fun k => lab k = i + 1) g nd
 root : k24.R 24 W n0 (fun k => lab k = 0) rv S.root.f2
theorem NodeAt.grown {W W' : World} {n0 : Nat} {ok : Nat → Prop} {g : Nat} {nd : Nd} {row : Option Nat} (h : NodeAt W n0 ok g nd) (hg : W.grownBy W' row) (h1 : some g ≠ row) (h2 : ∀ k, ok k → some k ≠ row) (h3 : ∀ m es clock, W.heap[m]? = some (.map es clock) → some m ≠ row) : NodeAt W' n0 ok g nd := by
 obtain ⟨hn, kv, m, hh, hR, hm, n, hn2, es, clock, hmb, hmr⟩ := h
 exact ⟨hn, kv, m, (hg.block g (Array.getElem?_eq_some_iff.1 hh).1 h1).trans hh, Kd.R_grown hR hg h2, hm, n, hn2, es, clock, (hg.block m (Array.getElem?_eq_some_iff.1 hmb).1 (h3 m es clock hmb)).trans hmb, hmr⟩
theorem Rep.below {W W' : World} {n0 b : Nat} {lab : Nat → Nat} {S : Bst} {gs : List Nat} {sv rv : Value} (h : Rep W n0 b lab S gs sv rv) (hb : Below W.heap.size W W') : Rep W' n0 b lab S gs sv rv := by
 have hg := grown_of_below hb none
 exact ⟨h.hb, (hb.block b (Array.getElem?_eq_some_iff.1 h.box).1).trans h.box, own_other h.row hg (by cases sv.ownBlock <;> simp), h.len, h.apart,
  fun i g nd h1 h2 => (h.nodes i g nd h1 h2).grown hg (by simp) (fun _ _ => by simp) (fun _ _ _ _ => by simp), Kd.R_below h.root hb⟩
theorem blk_ne {W : World} {x y t1 t2 : Nat} {c1 c2 : Array Value} (h1 : W.heap[x]? = some (.cells c1 t1 (0, 0))) (h2 : W.heap[y]? = some (.cells c2 t2 (0, 0))) (ht : t1 ≠ t2) : x ≠ y := by
 rintro rfl
 rw [h1] at h2
 injection h2 with h2
 injection h2 with _ e
 exact ht e
def But (W W' : World) (x : Nat) : Prop := ∀ k, k < W.heap.size → k ≠ x → W'.heap[k]? = W.heap[k]?
theorem But.set (W : World) (x j : Nat) (u : Value) : But W (W.setCell ⟨x, j, none⟩ u) x := fun k _ hk => Below.heap_setCell W ⟨x, j, none⟩ u k hk
theorem R_but {W W' : World} {n0 : Nat} {ok : Nat → Prop} {v : Value} {xs : List S24} (h : k24.R 24 W n0 ok v xs) {x t : Nat} {cells : Array Value} (hx : W.heap[x]? = some (.cells cells t (0, 0))) (ht : t ≠ 24) (hm : But W W' x) : k24.R 24 W' n0 ok v xs :=
 Kd.R_mono (Kd.R_step (Kd.R_types h hx (fun q hq => by
  have : q = 24 := by
   have hE : (24 :: k24.E) = [24, 24] := rfl
   rw [hE] at hq
   simp at hq
   exact hq
  rw [this]; exact fun e => ht e.symm)) (fun k hk hl => hm k hl hk.2)) (fun _ hk => hk.1)
theorem MapAt.but {W W' : World} {n0 m : Nat} {sp : List (List UInt8 × List UInt8)} (h : MapAt W n0 m sp) {x t : Nat} {cells : Array Value} (hx : W.heap[x]? = some (.cells cells t (0, 0))) (hm : But W W' x) : MapAt W' n0 m sp := by
 obtain ⟨h1, n, h2, es, clock, hb, hr⟩ := h
 exact ⟨h1, n, h2, es, clock, (hm m (Array.getElem?_eq_some_iff.1 hb).1 (fun e => by subst e; rw [hx] at hb; cases hb)).trans hb, hr⟩
theorem NodeAt.but {W W' : World} {n0 : Nat} {ok : Nat → Prop} {g : Nat} {nd : Nd} (h : NodeAt W n0 ok g nd) {x t : Nat} {cells : Array Value} (hx : W.heap[x]? = some (.cells cells t (0, 0))) (ht : t ≠ 24) (hg : g ≠ x) (hm : But W W' x) : NodeAt W' n0 ok g nd := by
 obtain ⟨h1, kv, m, hh, hR, hM⟩ := h
 exact ⟨h1, kv, m, (hm g (Array.getElem?_eq_some_iff.1 hh).1 hg).trans hh, R_but hR hx ht hm, hM.but hx hm⟩
theorem own_but {W W' : World} {n0 e n : Nat} {v : Value} {xs : List Value} (h : W.ownsRow n0 e 1 v n xs) {x t : Nat} {cells : Array Value} (hx : W.heap[x]? = some (.cells cells t (0, 0))) (ht : e ≠ t) (hm : But W W' x) : W'.ownsRow n0 e 1 v n xs :=
 own_move h (fun k hk => hm k (own_lt h k hk) (fun e => by subst e; exact own_ne h hx ht hk.symm))
theorem Rep.set_node {W : World} {n0 b : Nat} {lab : Nat → Nat} {S S' : Bst} {gs : List Nat} {sv rv : Value} (h : Rep W n0 b lab S gs sv rv) (i : Nat) (g : Nat) (nd nd' : Nd) (hi : gs[i]? = some g) (hnd : S.stack[i]? = some nd)
  (j : Nat) (u : Value) (hs : S' = { S with stack := S.stack.set i nd' })
  (hn : ∀ kv m, (#[.string nd.nm, .string nd.tx, kv, .string nd.name, .map (some m), .string nd.said, .bool nd.hask] : Array Value).setIfInBounds j u = #[.string nd'.nm, .string nd'.tx, kv, .string nd'.name, .map (some m), .string nd'.said, .bool nd'.hask])
  (hk : nd'.ks = nd.ks) (hsp : nd'.sp = nd.sp) : Rep (W.setCell ⟨g, j, none⟩ u) n0 b lab S' gs sv rv := by
 obtain ⟨n1, kv, m, hh, hR, hM⟩ := h.nodes i g nd hi hnd
 have hm := But.set W g j u
 have hbg : b ≠ g := blk_ne h.box hh (by decide)
 subst hs
 refine ⟨h.hb, (hm b (Array.getElem?_eq_some_iff.1 h.box).1 hbg).trans h.box, own_but h.row hh (by decide) hm, by simp [h.len], h.apart, ?_, R_but h.root hh (by decide) hm⟩
 intro i' g' nd2 h1 h2
 by_cases hii : i' = i
 ·
  subst hii
  obtain rfl : g = g' := by rw [hi] at h1; exact Option.some.inj h1
  have hlt : i' < S.stack.length := (List.getElem?_eq_some_iff.1 hnd).1
  rw [List.getElem?_set_self hlt] at h2
  obtain rfl := Option.some.inj h2
  refine ⟨n1, kv, m, ?_, ?_, ?_⟩
  ·
   rw [blk_set hh j u, hn kv m]
  ·
   rw [hk]; exact R_but hR hh (by decide) hm
  ·
   rw [hsp]; exact hM.but hh hm
 ·
  rw [List.getElem?_set_ne (fun e => hii e.symm)] at h2
  have hgg : g' ≠ g := fun e => by
   subst e
   have l1 := (List.getElem?_eq_some_iff.1 h1).1
   have l2 := (List.getElem?_eq_some_iff.1 hi).1
   exact hii ((List.getElem?_inj l1 h.apart).1 (h1.trans hi.symm))
  exact (h.nodes i' g' nd2 h1 h2).but hh (by decide) hgg hm
theorem Rep.set_box {W : World} {n0 b : Nat} {lab : Nat → Nat} {S S' : Bst} {gs : List Nat} {sv rv : Value} (h : Rep W n0 b lab S gs sv rv) (j : Nat) (u : Value)
  (hs : (#[sv, .string S.root.f0, .string S.root.f1, rv, .string S.space, .bool S.done, .int .i64 (S.many : Int)] : Array Value).setIfInBounds j u = #[sv, .string S'.root.f0, .string S'.root.f1, rv, .string S'.space, .bool S'.done, .int .i64 (S'.many : Int)])
  (h1 : S'.stack = S.stack) (h2 : S'.root.f2 = S.root.f2) : Rep (W.setCell ⟨b, j, none⟩ u) n0 b lab S' gs sv rv := by
 have hm := But.set W b j u
 refine ⟨h.hb, by rw [blk_set h.box j u, hs], own_but h.row h.box (by decide) hm, by rw [h1]; exact h.len, h.apart, ?_, by rw [h2]; exact R_but h.root h.box (by decide) hm⟩
 intro i g nd q1 q2
 rw [h1] at q2
 have hN := h.nodes i g nd q1 q2
 refine hN.but h.box (by decide) ?_ hm
 obtain ⟨_, kv, m, hh, _⟩ := hN
 exact blk_ne hh h.box (by decide)
theorem Rep.top {W : World} {n0 b : Nat} {lab : Nat → Nat} {S : Bst} {gs : List Nat} {sv rv : Value} (h : Rep W n0 b lab S gs sv rv) (k : Nat) (hk : gs.length = k + 1) :
  ∃ r c g nd, sv = .slice (some ⟨r, 0, none⟩) (k + 1) c ∧ k + 1 ≤ c ∧ W.cell? ⟨r, k, none⟩ = some (.pointer (some ⟨g, 0, none⟩)) ∧ gs[k]? = some g ∧ S.stack[k]? = some nd ∧ S.stack.getLast? = some nd := by
 have hl := h.len
 obtain ⟨_, hv | ⟨r, cap, cur, hv, _, hh, hnc, _, hsz, hc⟩⟩ := h.row
 ·
  omega
 obtain ⟨g, hg⟩ : ∃ g, gs[k]? = some g := ⟨gs[k], List.getElem?_eq_getElem (by omega)⟩
 obtain ⟨nd, hnd⟩ : ∃ nd, S.stack[k]? = some nd := ⟨S.stack[k], List.getElem?_eq_getElem (by omega)⟩
 refine ⟨r, cap, g, nd, by rw [← hk]; exact hv, by omega, ?_, hg, hnd, by rw [List.getLast?_eq_getElem?, ← hl, hk]; exact hnd⟩
 rw [cell_of_row _ _ _ _ _ _ hh]
 have : (cur.toList.take (gs.length * 1))[k]? = some (ptrE g) := by rw [hc, List.getElem?_map, hg]; rfl
 rw [List.getElem?_take_of_lt (by omega)] at this
 rw [Array.getElem?_toList] at this
 exact this
def K44 (wf W : World) : Prop := ∀ (k : Nat) (c : Array Value), wf.heap[k]? = some (.cells c 44 (0, 0)) → W.heap[k]? = some (.cells c 44 (0, 0))
theorem K44.below {wf W W' : World} (h : K44 wf W) (hb : Below W.heap.size W W') : K44 wf W' := fun k c hk => (hb.block k (Array.getElem?_eq_some_iff.1 (h k c hk)).1).trans (h k c hk)
theorem K44.set {wf W : World} (h : K44 wf W) {g t : Nat} {cs : Array Value} (hx : W.heap[g]? = some (.cells cs t (0, 0))) (ht : t ≠ 44) (j : Nat) (u : Value) : K44 wf (W.setCell ⟨g, j, none⟩ u) := fun k c hk => (Below.heap_setCell W ⟨g, j, none⟩ u k (blk_ne (h k c hk) hx (fun e => ht e.symm))).trans (h k c hk)
theorem K44.grown {wf W W' : World} (h : K44 wf W) {row : Option Nat} (hg : W.grownBy W' row) (hr : ∀ (k : Nat) (c : Array Value), row = some k → W.heap[k]? = some (.cells c 44 (0, 0)) → False) : K44 wf W' := fun k c hk => (hg.block k (Array.getElem?_eq_some_iff.1 (h k c hk)).1 (fun e => hr k c e.symm (h k c hk))).trans (h k c hk)
def Bl (w0 wf W : World) : Prop := Below w0.heap.size w0 W ∧ K44 wf W
theorem Bl.step {w0 wf W W' : World} (h : Bl w0 wf W) (hb : Below W.heap.size W W') : Bl w0 wf W' := ⟨h.1.trans (hb.mono h.1.size), h.2.below hb⟩
theorem Bl.set {w0 wf W : World} (h : Bl w0 wf W) {g t : Nat} {cs : Array Value} (hn : w0.heap.size ≤ g) (hx : W.heap[g]? = some (.cells cs t (0, 0))) (ht : t ≠ 44) (j : Nat) (u : Value) : Bl w0 wf (W.setCell ⟨g, j, none⟩ u) := ⟨h.1.setCell (p := ⟨g, j, none⟩) hn u, h.2.set hx ht j u⟩
def blankL (l : List UInt8) : Bool := l.all blankB
def sayT (S : Bst) (s : ByteArray) : Bst × Int :=
 match S.stack.getLast? with
 | none => (S, if blankL s.data.toList then 0 else 23)
 | some nd => ({ S with stack := S.stack.set (S.stack.length - 1) { nd with said := nd.said ++ s } }, if nd.hask && !blankL s.data.toList then 23 else 0)
set_option maxHeartbeats 4000000 in
set_option maxRecDepth 100000 in
theorem say_any (w0 wf w : World) (b : Nat) (lab : Nat → Nat) (S : Bst) (gs : List Nat) (sv rv : Value) (s : ByteArray) (h : Rep w w0.heap.size b lab S gs sv rv) (hs : s.size ≤ 4194304) (hsz : ∀ nd ∈ S.stack, nd.said.size ≤ 17592186044416) (hd : gs.length ≤ 64) (hG0 : Glob w0) (hB0 : Bl w0 wf w) :
  Calls Tryz.prog 117 #[.pointer (some ⟨b, 0, none⟩), .string s] w fun e w' => e = .returned (.int .i64 (sayT S s).2) ∧ Bl w0 wf w' ∧ Rep w' w0.heap.size b lab (sayT S s).1 gs sv rv := by
 have HR := Lib.hid h
 have hn : w0.heap.size ≤ w.heap.size := hB0.1.size
 have HB0 := Lib.hid hB0
 have HG0 := Lib.hid hG0
 have HG := Lib.hid (hG0.below hB0.1)
 have hb0 := (cell_of_row _ _ 0 _ _ _ h.box).trans (show _ = some sv from rfl)
 obtain ⟨A, c, rfl⟩ := own_slice h.row
 clear h hG0 hB0
 go_enter Tryz.func117, Tryz.ntmps117
 cases hgl : gs.length with
 | zero =>
  have hst : S.stack = [] := List.length_eq_zero_iff.1 (by rw [← HR.out.len]; exact hgl)
  have hsay : sayT S s = (S, if blankL s.data.toList then 0 else 23) := by unfold sayT; rw [hst]; rfl
  rw [hsay]
  rw [hgl] at hb0
  go_wp2_with fail
  refine (text_Blank.calls s (blankL s.data.toList) _ (by unfold text_Blank.f; rw [if_pos (by omega)]; rfl) HG.out).mono ?_
  rintro e w1 ⟨rfl, hb1⟩
  cases hbl : blankL s.data.toList with
  | true =>
   go_wp2_with fail
   go_ret
   exact ⟨rfl, HB0.out.step hb1, by have := HR.out.below hb1; rw [hgl] at this; exact this⟩
  | false =>
   go_wp2_with fail
   go_ret
   exact ⟨rfl, HB0.out.step hb1, by have := HR.out.below hb1; rw [hgl] at this; exact this⟩
 | succ k =>
  obtain ⟨r, c', g, nd, hv, hkc, ht0, hg, hnd, hlast⟩ := HR.out.top k hgl
  rw [hgl] at hv hb0
  cases hv
  obtain ⟨n1, kv, m, hh, hRk, hMp⟩ := HR.out.nodes k g nd hg hnd
  have hc5 := (cell_of_row _ _ 5 _ _ _ hh).trans (show _ = some (Value.string nd.said) from rfl)
  have hc6 := (cell_of_row _ _ 6 _ _ _ hh).trans (show _ = some (Value.bool nd.hask) from rfl)
  have hkn : ¬ (((k + 1 : Nat) : Int) = 0) := by omega
  have hk1 : decide ((k : Int) < (k : Int) + 1) = true := decide_eq_true (by omega)
  have hk2 : (0 : Int) ≤ (k : Int) := by omega
  have hk3 : (k : Int) < (k : Int) + 1 := by omega
  have hwk : wrap64 (k : Int) = (k : Int) := by unfold wrap64; omega
  have hwk1 : wrap64 ((k : Int) + 1) = (k : Int) + 1 := by unfold wrap64; omega
  have hkz : (((k + 1 : Nat) : Int) == 0) = false := by simp; omega
  go_wp2_with fail
  go_quiet (fail)
  have hbd := pw_below_drewN (Below.refl w.heap.size w) nq
  have HRd := Lib.hid (HR.out.below hbd)
  have HGd := Lib.hid (HG.out.below hbd)
  have HBd := Lib.hid (HB0.out.step hbd)
  have hnd2 : w0.heap.size ≤ (w.drewN nq).heap.size := Nat.le_trans hn hbd.size
  replace hh := (hbd.block g (Array.getElem?_eq_some_iff.1 hh).1).trans hh
  clear hb0 ht0 hc5 hc6 hRk hMp hbd HR HG hkz hkn
  generalize w.drewN nq = wd at HRd HGd HBd hh hnd2 ⊢
  have hc5 := (cell_of_row _ _ 5 _ _ _ hh).trans (show _ = some (Value.string nd.said) from rfl)
  have hc6 := (cell_of_row _ _ 6 _ _ _ hh).trans (show _ = some (Value.bool nd.hask) from rfl)
  have hf5 : wd.frozen? ⟨g, 5, none⟩ = false := frozen_of_row _ _ _ _ _ hh
  have hsd := hsz nd (List.mem_of_getElem? hnd)
  have hz1 : (9223372036854775807 < nd.said.size + s.size) = False := eq_false (by omega)
  have hsay : sayT S s = ({ S with stack := S.stack.set k { nd with said := nd.said ++ s } }, if nd.hask && !blankL s.data.toList then 23 else 0) := by
   unfold sayT
   rw [hlast]
   have : S.stack.length - 1 = k := by have := HRd.out.len; omega
   rw [this]
  have HR2 := Lib.hid (HRd.out.set_node k g nd { nd with said := nd.said ++ s } hg hnd 5 (.string (nd.said ++ s)) rfl (fun kv m => by simp) rfl rfl)
  have HB2 := Lib.hid (HBd.out.set n1 hh (by decide) 5 (.string (nd.said ++ s)))
  have hn3 : w0.heap.size ≤ (wd.setCell ⟨g, 5, none⟩ (.string (nd.said ++ s))).heap.size := by simp; exact hnd2
  have HG2 := Lib.hid (HG0.out.below HB2.out.1)
  cases hk6 : nd.hask with
  | false =>
   rw [hk6] at hc6
   go_wp2_with fail
   go_ret
   exact ⟨by rw [hsay]; simp [hk6], HB2.out, by rw [hsay, ← hgl]; exact HR2.out⟩
  | true =>
   rw [hk6] at hc6
   go_wp2_with fail
   refine (text_Blank.calls s (blankL s.data.toList) _ (by unfold text_Blank.f; rw [if_pos (by omega)]; rfl) HG2.out).mono ?_
   rintro e w3 ⟨rfl, hb3⟩
   cases hbl : blankL s.data.toList with
   | true =>
    go_wp2_with fail
    go_ret
    exact ⟨by rw [hsay]; simp [hk6, hbl], HB2.out.step hb3, by rw [hsay, ← hgl]; exact HR2.out.below hb3⟩
   | false =>
    go_wp2_with fail
    go_ret
    exact ⟨by rw [hsay]; simp [hk6, hbl], HB2.out.step hb3, by rw [hsay, ← hgl]; exact HR2.out.below hb3⟩
end Go.Proofs.YtknfpggiigncpaaGreatDoor.T
