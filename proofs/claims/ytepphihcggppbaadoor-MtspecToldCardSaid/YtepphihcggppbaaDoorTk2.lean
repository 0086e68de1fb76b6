/- mtspec.Table's take: what it holds while it goes through the words: plain. -/
import Derived.Test.YtepphihcggppbaaDoorTk1
import Derived.Test.YtepphihcggppbaaDoorFm2
import Derived.Test.YtepphihcggppbaaDoorAt1
set_option linter.unusedVariables false
set_option linter.unusedSimpArgs false
namespace Go.Proofs.YtepphihcggppbaaDoor.A
open Go.RowKit Go.Proofs.YtepphihcggppbaaDoorW.PrintWords Go.Proofs.YtepphihcggppbaaDoorW.PrintLast Go.Proofs.YtepphihcggppbaaDoorW.PrintMore

/-- What take knows: is a group open; the numbers behind it; the group; the root. -/
structure St where
  opn : Bool
  nms : Option (List Int)
  grp : Option S24
  root : S24
def putT (st : St) (s : S24) : Option St := if st.opn then st.grp.map fun g => { st with grp := some (snocT g s) } else some { st with root := snocT st.root s }
def leastT (x : ByteArray) : Int := if Lib.hasSuffix x.data.toList [63] then 0 else 1
def tagT (x : ByteArray) : ByteArray := ⟨(Lib.trimSuffix x.data.toList [63]).toArray⟩
def takeT (st : St) (x : ByteArray) : Option St :=
  if x.data.toList = [40] then some { st with opn := true }
  else if x.data.toList = [41] then some { st with opn := false, nms := some [] }
  else match st.nms, atoiV x with
    | some [], some n => some { st with nms := some [n] }
    | some [a], some n => if st.opn then none else st.grp.map fun g => { st with nms := none, grp := none, root := snocT st.root ⟨g.f0, a, n, g.f3, g.f4, g.f5⟩ }
    | some (_ :: _ :: _), some _ => none
    | _, _ => if (specT (tagT x) (leastT x) 1).2 then putT st (specT (tagT x) (leastT x) 1).1 else some { st with grp := some ⟨x, 0, 0, ⟨#[]⟩, [], false⟩ }
def NumV (W : World) (n0 : Nat) (nv : Value) : Option (List Int) → Prop
  | none => nv = .slice none 0 0
  | some ns => (∃ g c, nv = .slice (some ⟨g, 0, none⟩) ns.length c) ∧ W.ownsRow n0 3 1 nv ns.length (nums .i64 ns)
def putV (gr gg go : Nat) : Value := .func (.func 24) #[] #[.pointer (some ⟨go, 0, none⟩), .pointer (some ⟨gg, 0, none⟩), .pointer (some ⟨gr, 0, none⟩)]
structure Rep (W : World) (n0 gr gg gn go gp : Nat) (st : St) (gs : S24) (A B : Nat → Prop) (rv gv nv : Value) : Prop where
  lo : n0 ≤ gr ∧ n0 ≤ gg ∧ n0 ≤ gn ∧ n0 ≤ go ∧ n0 ≤ gp
  ne : gr ≠ gg
  rb : Sbox W gr st.root rv
  gb : Sbox W gg gs gv
  nb : W.heap[gn]? = some (.cells #[nv] 49 (0, 0))
  ob : W.heap[go]? = some (.cells #[.bool st.opn] 4 (0, 0))
  pb : W.heap[gp]? = some (.cells #[putV gr gg go] 50 (0, 0))
  num : NumV W n0 nv st.nms
  rr : k24.R 24 W n0 A rv st.root.f4
  gl : ∀ g, st.grp = some g → gs = g ∧ k24.R 24 W n0 B gv g.f4
  ta : ∀ k, A k → (¬ B k ∧ k ≠ gr ∧ k ≠ gg) ∧ ∃ c, W.heap[k]? = some (.cells c 24 (0, 0))
  tb : ∀ k, B k → (k ≠ gr ∧ k ≠ gg) ∧ ∃ c, W.heap[k]? = some (.cells c 24 (0, 0))
theorem tne {W : World} {x y t1 t2 : Nat} {c1 c2 : Array Value} (h1 : W.heap[x]? = some (.cells c1 t1 (0, 0))) (h2 : W.heap[y]? = some (.cells c2 t2 (0, 0))) (ht : t1 ≠ t2) : x ≠ y := by
  rintro rfl
  rw [h1] at h2
  injection h2 with h2
  injection h2 with _ e
  exact ht e
theorem tlt {W : World} {x : Nat} {o : Obj} (h : W.heap[x]? = some o) : x < W.heap.size := (Array.getElem?_eq_some_iff.1 h).1
theorem own_typed {W : World} {n0 e s n : Nat} {v : Value} {xs : List Value} (h : W.ownsRow n0 e s v n xs) (k : Nat) (hk : v.ownBlock = some k) : ∃ cells, W.heap[k]? = some (.cells cells e (0, 0)) := by
  rcases h.2 with ⟨rfl, _⟩ | ⟨r, cap, cur, rfl, _, hh, _⟩
  · cases hk
  · cases hk
    exact ⟨_, hh⟩
theorem NumV.typed {W : World} {n0 : Nat} {nv : Value} {o : Option (List Int)} (h : NumV W n0 nv o) (k : Nat) (hk : nv.ownBlock = some k) : ∃ cells, W.heap[k]? = some (.cells cells 3 (0, 0)) := by
  cases o with
  | none => cases h; cases hk
  | some ns => exact own_typed h.2 k hk
theorem own_stay {W W' : World} {n0 e s n : Nat} {v : Value} {xs : List Value} (h : W.ownsRow n0 e s v n xs) (hs : W.heap.size ≤ W'.heap.size) (hm : ∀ k, v.ownBlock = some k → W'.heap[k]? = W.heap[k]?) : W'.ownsRow n0 e s v n xs := by
  obtain ⟨h1, h2⟩ := h
  refine ⟨h1, ?_⟩
  rcases h2 with h2 | ⟨r, cap, cur, rfl, a, hh, b⟩
  · exact .inl h2
  · exact .inr ⟨r, cap, cur, rfl, a, (hm r rfl).trans hh, b⟩
theorem NumV.stay {W W' : World} {n0 : Nat} {nv : Value} {o : Option (List Int)} (h : NumV W n0 nv o) (hs : W.heap.size ≤ W'.heap.size) (hm : ∀ k, nv.ownBlock = some k → W'.heap[k]? = W.heap[k]?) : NumV W' n0 nv o := by
  cases o with
  | none => exact h
  | some ns => exact ⟨h.1, own_stay h.2 hs hm⟩
theorem Rep.below {W W' : World} {n0 gr gg gn go gp : Nat} {st : St} {gs : S24} {A B : Nat → Prop} {rv gv nv : Value} (h : Rep W n0 gr gg gn go gp st gs A B rv gv nv) (hb : Below W.heap.size W W') : Rep W' n0 gr gg gn go gp st gs A B rv gv nv :=
  ⟨h.lo, h.ne, h.rb.low hb h.rb.lt, h.gb.low hb h.gb.lt, (hb.block _ (tlt h.nb)).trans h.nb, (hb.block _ (tlt h.ob)).trans h.ob, (hb.block _ (tlt h.pb)).trans h.pb,
   h.num.stay hb.size (fun k hk => hb.block k (by obtain ⟨c, hc⟩ := h.num.typed k hk; exact tlt hc)), Kd.R_below h.rr hb, fun g hg => ⟨(h.gl g hg).1, Kd.R_below (h.gl g hg).2 hb⟩,
   fun k hk => ⟨(h.ta k hk).1, by obtain ⟨c, hc⟩ := (h.ta k hk).2; exact ⟨c, (hb.block k (tlt hc)).trans hc⟩⟩, fun k hk => ⟨(h.tb k hk).1, by obtain ⟨c, hc⟩ := (h.tb k hk).2; exact ⟨c, (hb.block k (tlt hc)).trans hc⟩⟩⟩
theorem nb_ne {a b : Nat} (h : a ≠ b) : b ≠ a := fun e => h e.symm
/-- The box of 'open' written. -/
theorem Rep.setO {W : World} {n0 gr gg gn go gp : Nat} {st : St} {gs : S24} {A B : Nat → Prop} {rv gv nv : Value} (h : Rep W n0 gr gg gn go gp st gs A B rv gv nv) (b : Bool) :
    Rep (W.setCell ⟨go, 0, none⟩ (.bool b)) n0 gr gg gn go gp { st with opn := b } gs A B rv gv nv := by
  have hm : ∀ k, k ≠ go → (W.setCell ⟨go, 0, none⟩ (.bool b)).heap[k]? = W.heap[k]? := fun k hk => Below.heap_setCell W ⟨go, 0, none⟩ _ k hk
  have hA : ∀ k, A k → k ≠ go := fun k hk => by obtain ⟨c, hc⟩ := (h.ta k hk).2; exact tne hc h.ob (by decide)
  have hB : ∀ k, B k → k ≠ go := fun k hk => by obtain ⟨c, hc⟩ := (h.tb k hk).2; exact tne hc h.ob (by decide)
  have hN : ∀ k, nv.ownBlock = some k → k ≠ go := fun k hk => by obtain ⟨c, hc⟩ := h.num.typed k hk; exact tne hc h.ob (by decide)
  exact ⟨h.lo, h.ne, (hm _ (tne h.rb h.ob (by decide))).trans h.rb, (hm _ (tne h.gb h.ob (by decide))).trans h.gb, (hm _ (tne h.nb h.ob (by decide))).trans h.nb, blk_put h.ob 0 _ rfl, (hm _ (tne h.pb h.ob (by decide))).trans h.pb,
    h.num.stay (by simp [World.setCell]) (fun k hk => hm k (hN k hk)), Kd.R_step h.rr (fun k hk _ => hm k (hA k hk)), fun g hg => ⟨(h.gl g hg).1, Kd.R_step (h.gl g hg).2 (fun k hk _ => hm k (hB k hk))⟩,
    fun k hk => ⟨(h.ta k hk).1, by obtain ⟨c, hc⟩ := (h.ta k hk).2; exact ⟨c, (hm k (hA k hk)).trans hc⟩⟩, fun k hk => ⟨(h.tb k hk).1, by obtain ⟨c, hc⟩ := (h.tb k hk).2; exact ⟨c, (hm k (hB k hk)).trans hc⟩⟩⟩
/-- The numbers grown or laid anew, and their box written. -/
theorem Rep.setN {W W1 : World} {n0 gr gg gn go gp : Nat} {st : St} {gs : S24} {A B : Nat → Prop} {rv gv nv : Value} (h : Rep W n0 gr gg gn go gp st gs A B rv gv nv) (hs : W.heap.size ≤ W1.heap.size) (hst : ∀ k, k < W.heap.size → some k ≠ nv.ownBlock → W1.heap[k]? = W.heap[k]?)
    (nv' : Value) (ns' : Option (List Int)) (hn : NumV W1 n0 nv' ns') : Rep (W1.setCell ⟨gn, 0, none⟩ nv') n0 gr gg gn go gp { st with nms := ns' } gs A B rv gv nv' := by
  have hrow : ∀ (k t : Nat) (c : Array Value), W.heap[k]? = some (.cells c t (0, 0)) → t ≠ 3 → W1.heap[k]? = W.heap[k]? := fun k t c hk ht => hst k (tlt hk) (fun e => by obtain ⟨c', hc⟩ := h.num.typed k e.symm; exact tne hk hc ht rfl)
  have hm : ∀ k, k ≠ gn → (W1.setCell ⟨gn, 0, none⟩ nv').heap[k]? = W1.heap[k]? := fun k hk => Below.heap_setCell W1 ⟨gn, 0, none⟩ _ k hk
  have hn1 : W1.heap[gn]? = some (.cells #[nv] 49 (0, 0)) := (hrow _ _ _ h.nb (by decide)).trans h.nb
  have hboth : ∀ (k t : Nat) (c : Array Value), W.heap[k]? = some (.cells c t (0, 0)) → t ≠ 3 → t ≠ 49 → (W1.setCell ⟨gn, 0, none⟩ nv').heap[k]? = W.heap[k]? := fun k t c hk h3 h4 => (hm k (tne hk h.nb h4)).trans (hrow k t c hk h3)
  have hA : ∀ k, A k → (W1.setCell ⟨gn, 0, none⟩ nv').heap[k]? = W.heap[k]? := fun k hk => by obtain ⟨c, hc⟩ := (h.ta k hk).2; exact hboth k _ _ hc (by decide) (by decide)
  have hB : ∀ k, B k → (W1.setCell ⟨gn, 0, none⟩ nv').heap[k]? = W.heap[k]? := fun k hk => by obtain ⟨c, hc⟩ := (h.tb k hk).2; exact hboth k _ _ hc (by decide) (by decide)
  exact ⟨h.lo, h.ne, (hboth _ _ _ h.rb (by decide) (by decide)).trans h.rb, (hboth _ _ _ h.gb (by decide) (by decide)).trans h.gb, blk_put hn1 0 _ rfl, (hboth _ _ _ h.ob (by decide) (by decide)).trans h.ob, (hboth _ _ _ h.pb (by decide) (by decide)).trans h.pb,
    hn.stay (by simp [World.setCell]) (fun k hk => hm k (by obtain ⟨c, hc⟩ := hn.typed k hk; exact tne hc hn1 (by decide))), Kd.R_step h.rr (fun k hk _ => hA k hk), fun g hg => ⟨(h.gl g hg).1, Kd.R_step (h.gl g hg).2 (fun k hk _ => hB k hk)⟩,
    fun k hk => ⟨(h.ta k hk).1, by obtain ⟨c, hc⟩ := (h.ta k hk).2; exact ⟨c, (hA k hk).trans hc⟩⟩, fun k hk => ⟨(h.tb k hk).1, by obtain ⟨c, hc⟩ := (h.tb k hk).2; exact ⟨c, (hB k hk).trans hc⟩⟩⟩
/-- The group's cells written. -/
theorem Rep.setG {W W1 : World} {n0 gr gg gn go gp : Nat} {st : St} {gs : S24} {A B : Nat → Prop} {rv gv nv : Value} (h : Rep W n0 gr gg gn go gp st gs A B rv gv nv) (hs : W.heap.size ≤ W1.heap.size) (hst : ∀ k, k < W.heap.size → k ≠ gg → W1.heap[k]? = W.heap[k]?)
    (gs' : S24) (gv' : Value) (hg : Sbox W1 gg gs' gv') (hk : (gs'.f4 = gs.f4 ∧ gv' = gv ∧ ∃ g, st.grp = some g) ∨ gs'.f4 = [] ∧ gv' = .slice none 0 0) :
    Rep W1 n0 gr gg gn go gp { st with grp := some gs' } gs' A B rv gv' nv := by
  have hm : ∀ k, k < W.heap.size → k ≠ gg → W1.heap[k]? = W.heap[k]? := hst
  have hA : ∀ k, A k → W1.heap[k]? = W.heap[k]? := fun k hk => by obtain ⟨c, hc⟩ := (h.ta k hk).2; exact hm k (tlt hc) (h.ta k hk).1.2.2
  have hB : ∀ k, B k → W1.heap[k]? = W.heap[k]? := fun k hk => by obtain ⟨c, hc⟩ := (h.tb k hk).2; exact hm k (tlt hc) (h.tb k hk).1.2
  refine ⟨h.lo, h.ne, (hm _ h.rb.lt h.ne).trans h.rb, hg, (hm _ (tlt h.nb) (tne h.nb h.gb (by decide))).trans h.nb, (hm _ (tlt h.ob) (tne h.ob h.gb (by decide))).trans h.ob, (hm _ (tlt h.pb) (tne h.pb h.gb (by decide))).trans h.pb,
    h.num.stay hs (fun k hk => by obtain ⟨c, hc⟩ := h.num.typed k hk; exact hm k (tlt hc) (tne hc h.gb (by decide))), Kd.R_step h.rr (fun k hk _ => hA k hk), fun g hgg => ?_,
    fun k hk => ⟨(h.ta k hk).1, by obtain ⟨c, hc⟩ := (h.ta k hk).2; exact ⟨c, (hA k hk).trans hc⟩⟩, fun k hk => ⟨(h.tb k hk).1, by obtain ⟨c, hc⟩ := (h.tb k hk).2; exact ⟨c, (hB k hk).trans hc⟩⟩⟩
  obtain rfl := Option.some.inj hgg
  refine ⟨rfl, ?_⟩
  rcases hk with ⟨h1, h2, g, hg'⟩ | ⟨h1, h2⟩
  · obtain ⟨e1, e2⟩ := h.gl g hg'
    rw [h1, h2, e1]
    exact Kd.R_step e2 (fun k hk _ => hB k hk)
  · rw [h1, h2]
    exact Kd.R_nil _ _ _ _ _
/-- A table put into the root. -/
theorem Rep.putR {w0 W W1 : World} {gr gg gn go gp : Nat} {st : St} {gs s : S24} {A B C : Nat → Prop} {rv gv nv : Value} (h : Rep W w0.heap.size gr gg gn go gp st gs A B rv gv nv) (hD : Done w0 W W1 gr st.root s rv A C) (hC : ∀ k, C k → ¬ A k ∧ k ≠ gr ∧ k ≠ gg) (live : Bool) (hCB : live = true → ∀ k, C k → ¬ B k)
    (g' : Option S24) (hg' : live = true → g' = st.grp) (hn' : live = false → g' = none) :
    ∃ A' B' rv', Rep W1 w0.heap.size gr gg gn go gp { st with root := snocT st.root s, grp := g' } gs A' B' rv' gv nv := by
  obtain ⟨rv', hb, hR, hB1, hs, hfr⟩ := hD
  have hm : ∀ (k t : Nat) (c : Array Value), W.heap[k]? = some (.cells c t (0, 0)) → t ≠ 24 → W1.heap[k]? = W.heap[k]? := fun k t c hk ht => hfr k (tlt hk) (tne hk h.rb ht) (fun e => by obtain ⟨c', hc⟩ := Kd.R_typed h.rr k e.symm; exact tne hk hc ht rfl)
  have hBs : ∀ k, B k → W1.heap[k]? = W.heap[k]? := fun k hk => by
    obtain ⟨c, hc⟩ := (h.tb k hk).2
    exact hfr k (tlt hc) (h.tb k hk).1.1 (fun e => (h.ta k (h.rr.1 k e.symm)).1.1 hk)
  have hR' := Kd.R_bound hR
  have hgg : W1.heap[gg]? = W.heap[gg]? := hfr gg h.gb.lt (fun e => h.ne e.symm) (fun e => (h.ta gg (h.rr.1 gg e.symm)).1.2.2 rfl)
  have h24 : ∀ q, q ∈ 24 :: k24.E → q = 24 := by
    intro q hq
    have hE : (24 :: k24.E) = [24, 24] := rfl
    rw [hE] at hq
    simpa using hq
  refine ⟨_, fun k => live = true ∧ B k, rv', h.lo, h.ne, hb, hgg.trans h.gb, (hm _ _ _ h.nb (by decide)).trans h.nb, (hm _ _ _ h.ob (by decide)).trans h.ob, (hm _ _ _ h.pb (by decide)).trans h.pb,
    h.num.stay hs (fun k hk => by obtain ⟨c, hc⟩ := h.num.typed k hk; exact hm k _ _ hc (by decide)), hR', fun g hg => ?_, fun k hk => ⟨⟨?_, ?_⟩, ?_⟩, fun k hk => ⟨(h.tb k hk.2).1, by obtain ⟨c, hc⟩ := (h.tb k hk.2).2; exact ⟨c, (hBs k hk.2).trans hc⟩⟩⟩
  · cases live with
    | true =>
      have hg2 : st.grp = some g := by rw [← hg' rfl]; exact hg
      exact ⟨(h.gl g hg2).1, Kd.R_mono (Kd.R_step (h.gl g hg2).2 (fun k hk _ => hBs k hk)) (fun k hk => ⟨rfl, hk⟩)⟩
    | false =>
      have := hn' rfl
      rw [show g' = some g from hg] at this
      cases this
  · rintro ⟨hl, hB2⟩
    rcases hk.1 with x | x | x
    · exact (h.ta k x).1.1 hB2
    · exact hCB hl k x hB2
    · obtain ⟨c, hc⟩ := (h.tb k hB2).2
      have := tlt hc
      omega
  · rcases hk.1 with x | x | x
    · exact (h.ta k x).1.2
    · exact (hC k x).2
    · exact ⟨by have := h.rb.lt; omega, by have := h.gb.lt; omega⟩
  · obtain ⟨-, -, -, q, hq, c, hc⟩ := hk
    rw [h24 q hq] at hc
    exact ⟨c, hc⟩
/-- A table put into the group. -/
theorem Rep.putG {w0 W W1 : World} {gr gg gn go gp : Nat} {st : St} {g s : S24} {A B C : Nat → Prop} {rv gv nv : Value} (h : Rep W w0.heap.size gr gg gn go gp st g A B rv gv nv) (hg : st.grp = some g) (hD : Done w0 W W1 gg g s gv B C) (hC : ∀ k, C k → ¬ A k ∧ ¬ B k ∧ k ≠ gr ∧ k ≠ gg) :
    ∃ B' gv', Rep W1 w0.heap.size gr gg gn go gp { st with grp := some (snocT g s) } (snocT g s) A B' rv gv' nv := by
  obtain ⟨gv', hb, hR, hB1, hs, hfr⟩ := hD
  have hG := (h.gl g hg).2
  have hm : ∀ (k t : Nat) (c : Array Value), W.heap[k]? = some (.cells c t (0, 0)) → t ≠ 24 → W1.heap[k]? = W.heap[k]? := fun k t c hk ht => hfr k (tlt hk) (tne hk h.gb ht) (fun e => by obtain ⟨c', hc⟩ := Kd.R_typed hG k e.symm; exact tne hk hc ht rfl)
  have hAs : ∀ k, A k → W1.heap[k]? = W.heap[k]? := fun k hk => by
    obtain ⟨c, hc⟩ := (h.ta k hk).2
    exact hfr k (tlt hc) (h.ta k hk).1.2.2 (fun e => (h.ta k hk).1.1 (hG.1 k e.symm))
  have hR' := Kd.R_bound hR
  have hgr : W1.heap[gr]? = W.heap[gr]? := hfr gr h.rb.lt h.ne (fun e => (h.tb gr (hG.1 gr e.symm)).1.1 rfl)
  have h24 : ∀ q, q ∈ 24 :: k24.E → q = 24 := by
    intro q hq
    have hE : (24 :: k24.E) = [24, 24] := rfl
    rw [hE] at hq
    simpa using hq
  refine ⟨fun k => (B k ∨ C k ∨ W.heap.size ≤ k) ∧ w0.heap.size ≤ k ∧ k < W1.heap.size ∧ ∃ q, q ∈ 24 :: k24.E ∧ ∃ cells, W1.heap[k]? = some (.cells cells q (0, 0)), gv', h.lo, h.ne, hgr.trans h.rb, hb, (hm _ _ _ h.nb (by decide)).trans h.nb, (hm _ _ _ h.ob (by decide)).trans h.ob, (hm _ _ _ h.pb (by decide)).trans h.pb,
    h.num.stay hs (fun k hk => by obtain ⟨c, hc⟩ := h.num.typed k hk; exact hm k _ _ hc (by decide)), Kd.R_step h.rr (fun k hk _ => hAs k hk), fun g2 hg2 => ⟨Option.some.inj hg2, ?_⟩, fun k hk => ⟨⟨?_, (h.ta k hk).1.2⟩, by obtain ⟨c, hc⟩ := (h.ta k hk).2; exact ⟨c, (hAs k hk).trans hc⟩⟩, fun k hk => ⟨?_, ?_⟩⟩
  · obtain rfl := Option.some.inj hg2
    exact hR'
  · rintro ⟨x | x | x, -⟩
    · exact (h.ta k hk).1.1 x
    · exact (hC k x).1 hk
    · obtain ⟨c, hc⟩ := (h.ta k hk).2
      have := tlt hc
      omega
  · rcases hk.1 with x | x | x
    · exact (h.tb k x).1
    · exact (hC k x).2.2
    · exact ⟨by have := h.rb.lt; omega, by have := h.gb.lt; omega⟩
  · obtain ⟨-, -, -, q, hq, c, hc⟩ := hk
    rw [h24 q hq] at hc
    exact ⟨c, hc⟩
end Go.Proofs.YtepphihcggppbaaDoor.A
