/- The document's element, walked by hand. -/
import Derived.Test.YtknfpggiigncpaaGreatDoorUr4
import Derived.Test.YtknfpggiigncpaaGreatDoorFx1
set_option linter.unusedVariables false
set_option linter.unusedSimpArgs false
namespace Go.Proofs.YtknfpggiigncpaaGreatDoor.T
open Go.RowKit P E YtknfpggiigncpaaGreatDoorW.PrintLast YtknfpggiigncpaaGreatDoorW.PrintMore
open YtknfpggiigncpaaGreatDoorW.PrintWords
open C (Ch)
theorem results76 {g : Nat} {x0 x1 x2 at_ er : Value} {W : World} (h : W.heap[g]? = some (.cells #[x0, x1, x2] 24 (0, 0))) (tmps : Array Value) (h3 : tmps.getD 6 undef = .pointer (some ⟨g, 0, none⟩)) (h4 : tmps.getD 7 undef = at_) (h5 : tmps.getD 8 undef = er) :
  (results Tryz.f76 tmps).run Tryz.prog W = .ok (.tuple #[.agg #[x0, x1, x2], at_, er]) W := by
 have k0 := crow 0 x0 h
 have k1 := crow 1 x1 h
 have k2 := crow 2 x2 h
 rw [Array.getD_eq_getD_getElem?] at h3 h4 h5
 simp [results, Tryz.results76, go_sem, h3, h4, h5, k0, k1, k2]
theorem elemS_cons (n : Int) (f : Nat) (sp : List (List UInt8 × List UInt8)) (deep m : Nat) (space : ByteArray) (t : C.S44) (r : List C.S44) (sp' : List (List UInt8 × List UInt8)) (ks : List S24) (h : attsT t.f3 sp [] = some (sp', ks)) :
  elemS n f sp deep m space (t :: r) =
   if badD t.f1.data.toList = true ∨ ((spGet sp' (prefD t.f1.data.toList)).isSome || (prefD t.f1.data.toList).isEmpty) = false then .error (t.f5, 23)
   else match restS n f ks t ⟨(locD t.f1.data.toList).toArray⟩ (inT sp' (prefD t.f1.data.toList)) sp' deep (m + ks.length) space r with
    | .error z => .error z
    | .ok (v, m3, l') => .ok (v, m3, (if deep = 0 then inT sp' (prefD t.f1.data.toList) else space), l') := by
 rw [elemS]
 unfold headT
 rw [h]
 simp only
 by_cases hb : badD t.f1.data.toList = true
 ·
  have : (D.splitT t.f1.data.toList).2.2 = false := by rw [badD_same] at hb; simpa using hb
  rw [if_pos (.inl this), if_pos (.inl hb)]
 ·
  have hb' : badD t.f1.data.toList = false := by simpa using hb
  have hp := prefD_same _ hb'
  have hx : (D.splitT t.f1.data.toList).2.2 = true := by rw [badD_same] at hb'; simpa using hb'
  rw [← hp.1, ← hp.2]
  by_cases hz : ((spGet sp' (prefD t.f1.data.toList)).isSome || (prefD t.f1.data.toList).isEmpty) = false
  ·
   rw [if_pos (.inr hz), if_pos (.inr hz)]
  ·
   have n1 : ¬ ((D.splitT t.f1.data.toList).2.2 = false ∨ ((spGet sp' (prefD t.f1.data.toList)).isSome || (prefD t.f1.data.toList).isEmpty) = false) := by
    rintro (q | q)
    ·
     rw [hx] at q; cases q
    ·
     exact hz q
   have n2 : ¬ (badD t.f1.data.toList = true ∨ ((spGet sp' (prefD t.f1.data.toList)).isSome || (prefD t.f1.data.toList).isEmpty) = false) := by
    rintro (q | q)
    ·
     exact hb q
    ·
     exact hz q
   rw [if_neg n1, if_neg n2]
   unfold restS
   obtain ⟨z, hzz⟩ : ∃ z, inT sp' (prefD t.f1.data.toList) = z := ⟨_, rfl⟩
   have hz2 : (⟨((spGet sp' (prefD t.f1.data.toList)).getD []).toArray⟩ : ByteArray) = z := hzz
   rw [hz2, hzz]
   obtain ⟨S2, hS2⟩ : ∃ S2, (if deep = 0 then z else space) = S2 := ⟨_, rfl⟩
   rw [hS2]
   by_cases c1 : z ≠ S2
   ·
    rw [if_pos c1, if_pos c1]
   ·
    rw [if_neg c1, if_neg c1]
    by_cases c2 : deep = 64
    ·
     rw [if_pos c2, if_pos c2]
    ·
     rw [if_neg c2, if_neg c2]
     by_cases c3 : m + ks.length + 1 > 20000
     ·
      rw [if_pos c3, if_pos c3]
     ·
      rw [if_neg c3, if_neg c3]
      simp only
      by_cases c4 : t.f4 = true
      ·
       rw [if_pos c4, if_pos c4]
      ·
       rw [if_neg c4, if_neg c4]
       generalize loopR n f _ deep _ S2 r = q
       cases q <;> rfl
theorem elemS_none (n : Int) (f : Nat) (sp : List (List UInt8 × List UInt8)) (deep m : Nat) (space : ByteArray) (t : C.S44) (r : List C.S44) (h : attsT t.f3 sp [] = none) : elemS n f sp deep m space (t :: r) = .error (t.f5, 23) := by
 rw [elemS]
 unfold headT
 rw [h]
structure Ep (wt w1 W : World) (g : Nat) (A : Option Addr) (c : Nat) (l44 : List C.S44) (n : Nat) (gv gt gq : Nat) (tc : Array Value) (vs : Array Value) (kv ov : Value) (ks : List S24) (sp : List (List UInt8 × List UInt8)) (i m : Nat) (space : ByteArray) : Prop where
 st : Sst g A c (l44.map C.tr44) i n m space W
 low : Below wt.heap.size wt W
 ch : Ch g w1 W
 vb : W.heap[gv]? = some (.cells vs 24 (0, 0))
 tb : W.heap[gt]? = some (.cells tc 88 (0, 0))
 qb : W.heap[gq]? = some (.cells #[.string ⟨#[]⟩, .string ⟨#[]⟩, .slice none 0 0] 24 (0, 0))
 kr : k24.R 24 W w1.heap.size (fun k => k ≠ gv ∧ k ≠ gq) kv ks
 os : F.k174.R 174 W w1.heap.size (fun _ => True) ov (spS sp)
structure Lq (wt w1 : World) (g gv gt gq : Nat) : Prop where
 hwt : wt.heap.size ≤ g
 hg : g < w1.heap.size
 hq : w1.heap.size ≤ gq
 ht : gq < gt
 hv : gt < gv
section
variable {wt w1 W : World} {g : Nat} {A : Option Addr} {c : Nat} {l44 : List C.S44} {n : Nat} {gv gt gq : Nat} {tc vs : Array Value} {kv ov : Value} {ks : List S24} {sp : List (List UInt8 × List UInt8)} {i m : Nat} {space : ByteArray}
theorem Ep.keep (h : Ep wt w1 W g A c l44 n gv gt gq tc vs kv ov ks sp i m space) (o : Lq wt w1 g gv gt gq) {W' : World} (hk : Ch g W W') {i' m' : Nat} {space' : ByteArray} (hs : Sst g A c (l44.map C.tr44) i' n m' space' W') : Ep wt w1 W' g A c l44 n gv gt gq tc vs kv ov ks sp i' m' space' := by
 have o1 := o.hwt
 have o2 := o.hg
 have o4 := o.hv
 have o5 := o.ht
 have o6 := o.hq
 have hb : ∀ (p : Nat) (x : Obj), p ≠ g → W.heap[p]? = some x → W'.heap[p]? = some x := fun p x hp hx => (hk.2.2 p (Array.getElem?_eq_some_iff.1 hx).1 hp (by simp)).trans hx
 exact ⟨hs, h.low.trans (hk.1.mono o1), h.ch.trans hk, hb _ _ (by omega) h.vb, hb _ _ (by omega) h.tb, hb _ _ (by omega) h.qb,
  Kd.R_mono (Kd.R_keep (Kd.R_bound h.kr) hk.2 (fun k hk => by have := hk.2.1; omega)) (fun k hk => hk.1), Kd.R_mono (Kd.R_keep (Kd.R_bound h.os) hk.2 (fun k hk => by have := hk.2.1; omega)) (fun k hk => hk.1)⟩
theorem Ep.below (h : Ep wt w1 W g A c l44 n gv gt gq tc vs kv ov ks sp i m space) (o : Lq wt w1 g gv gt gq) {W' : World} (hb : Below W.heap.size W W') : Ep wt w1 W' g A c l44 n gv gt gq tc vs kv ov ks sp i m space := by
 have hgW : g < W.heap.size := (Array.getElem?_eq_some_iff.1 h.st).1
 exact h.keep o (Ch.of_below hb (by omega)) ((hb.block g hgW).trans h.st)
theorem Ep.set (h : Ep wt w1 W g A c l44 n gv gt gq tc vs kv ov ks sp i m space) (o : Lq wt w1 g gv gt gq) (j : Nat) (u : Value) {i' m' : Nat} {space' : ByteArray}
  (hu : (#[.slice A (l44.map C.tr44).length c, .int .i64 (i : Int), .int .i64 (n : Int), .int .i64 (m : Int), .string space] : Array Value).setIfInBounds j u = #[.slice A (l44.map C.tr44).length c, .int .i64 (i' : Int), .int .i64 (n : Int), .int .i64 (m' : Int), .string space']) :
  Ep wt w1 (W.setCell ⟨g, j, none⟩ u) g A c l44 n gv gt gq tc vs kv ov ks sp i' m' space' :=
 h.keep o ((Ch.refl g W).set j u) ((blk_set h.st j u).trans (by rw [hu]))
theorem Ep.setv (h : Ep wt w1 W g A c l44 n gv gt gq tc vs kv ov ks sp i m space) (o : Lq wt w1 g gv gt gq) (j : Nat) (u : Value) {vs' : Array Value} (hu : vs.setIfInBounds j u = vs') :
  Ep wt w1 (W.setCell ⟨gv, j, none⟩ u) g A c l44 n gv gt gq tc vs' kv ov ks sp i m space := by
 have o1 := o.hwt
 have o2 := o.hg
 have o4 := o.hv
 have o5 := o.ht
 have o6 := o.hq
 have hb : ∀ (p : Nat) (x : Obj), p ≠ gv → W.heap[p]? = some x → (W.setCell ⟨gv, j, none⟩ u).heap[p]? = some x := fun p x hp hx => (Below.heap_setCell W ⟨gv, j, none⟩ u p hp).trans hx
 exact ⟨hb _ _ (by omega) h.st, h.low.setCell (p := ⟨gv, j, none⟩) (by show wt.heap.size ≤ gv; omega) u, ch_far h.ch o2 (by omega) j u, (blk_set h.vb j u).trans (by rw [hu]), hb _ _ (by omega) h.tb, hb _ _ (by omega) h.qb,
  Kd.R_far h.kr (p := ⟨gv, j, none⟩) (fun k hk => hk.1) u, Kd.R_mono (Kd.R_step (Kd.R_types h.os h.vb (fun q hq => by
   have : q = 174 := by
    have hE : (174 :: F.k174.E) = [174] := rfl
    rw [hE] at hq
    simpa using hq
   rw [this]; decide)) (fun k hk _ => Below.heap_setCell W ⟨gv, j, none⟩ u k hk.2)) (fun k hk => hk.1)⟩
theorem Ep.spaces (h : Ep wt w1 W g A c l44 n gv gt gq tc vs kv ov ks sp i m space) (o : Lq wt w1 g gv gt gq) {W' : World} (hg : W.grownBy W' ov.ownBlock) {ov' : Value} {sp' : List (List UInt8 × List UInt8)} (hR : F.k174.R 174 W' w1.heap.size (fun _ => True) ov' (spS sp')) : Ep wt w1 W' g A c l44 n gv gt gq tc vs kv ov' ks sp' i m space := by
 have o1 := o.hwt
 have o2 := o.hg
 have hbs := Kd.R_base h.os
 have hb : ∀ (p : Nat) (x : Obj), some p ≠ ov.ownBlock → W.heap[p]? = some x → W'.heap[p]? = some x := fun p x hp hx => (hg.block p (Array.getElem?_eq_some_iff.1 hx).1 hp).trans hx
 have hne : ∀ p, p < w1.heap.size → some p ≠ ov.ownBlock := fun p hp e => by have := hbs p e.symm; omega
 have hty : ∀ (p ty : Nat) (cells : Array Value), W.heap[p]? = some (.cells cells ty (0, 0)) → ty ≠ 174 → some p ≠ ov.ownBlock := fun p ty cells hx ht e => by
  obtain ⟨inner, ho⟩ := Kd.R_own h.os
  exact own_ne ho hx (fun e2 => ht e2.symm) e
 refine ⟨hb _ _ (hne g o2) h.st, h.low.trans ⟨hg.os, hg.tape, hg.output, hg.size, fun k hk => hg.block k (Nat.lt_of_lt_of_le hk h.low.size) (hne k (by omega))⟩, ch_grown h.ch hg o2 hbs, hb _ _ (hty _ _ _ h.vb (by decide)) h.vb, hb _ _ (hty _ _ _ h.tb (by decide)) h.tb, hb _ _ (hty _ _ _ h.qb (by decide)) h.qb, ?_, hR⟩
 cases hs : ov.ownBlock with
 | none => rw [hs] at hg; exact Kd.R_grown h.kr hg (fun _ _ => by simp)
 | some r =>
  obtain ⟨inner, ho⟩ := Kd.R_own h.os
  obtain ⟨cells, hc⟩ := own_cells ho r hs
  rw [hs] at hg
  exact Kd.R_mono (Kd.R_step (Kd.R_types h.kr hc (fun q hq => by
   have : q = 24 := by
    have hE : (24 :: k24.E) = [24, 24] := rfl
    rw [hE] at hq
    simp at hq
    exact hq
   rw [this]; decide)) (fun k hk hl => hg.block k hl (fun e => hk.2 (Option.some.inj e)))) (fun k hk => hk.1)
theorem Ep.row (h : Ep wt w1 W g A c l44 n gv gt gq tc vs kv ov ks sp i m space) (o : Lq wt w1 g gv gt gq) {W' : World} (hg : W.grownBy W' kv.ownBlock) {kv' : Value} {ks' : List S24} (hR : k24.R 24 W' w1.heap.size (fun k => k ≠ gv ∧ k ≠ gq) kv' ks') : Ep wt w1 W' g A c l44 n gv gt gq tc vs kv' ov ks' sp i m space := by
 have o1 := o.hwt
 have o2 := o.hg
 have o4 := o.hv
 have o5 := o.ht
 have o6 := o.hq
 have hbs := Kd.R_base h.kr
 have hok := h.kr.1
 have hb : ∀ (p : Nat) (x : Obj), some p ≠ kv.ownBlock → W.heap[p]? = some x → W'.heap[p]? = some x := fun p x hp hx => (hg.block p (Array.getElem?_eq_some_iff.1 hx).1 hp).trans hx
 have hne : ∀ p, p < w1.heap.size → some p ≠ kv.ownBlock := fun p hp e => by have := hbs p e.symm; omega
 have hgt : some gt ≠ kv.ownBlock := fun e => by
  obtain ⟨inner, ho⟩ := Kd.R_own h.kr
  obtain ⟨cells, hc⟩ := own_cells ho gt e.symm
  rw [h.tb] at hc
  injection hc with hc
  injection hc with _ hc
  cases hc
 refine ⟨hb _ _ (hne g o2) h.st, h.low.trans ⟨hg.os, hg.tape, hg.output, hg.size, fun k hk => hg.block k (Nat.lt_of_lt_of_le hk h.low.size) (hne k (by omega))⟩, ch_grown h.ch hg o2 hbs, hb _ _ (fun e => (hok gv e.symm).1 rfl) h.vb, hb _ _ hgt h.tb, hb _ _ (fun e => (hok gq e.symm).2 rfl) h.qb, hR, ?_⟩
 cases hs : kv.ownBlock with
 | none => rw [hs] at hg; exact Kd.R_grown h.os hg (fun _ _ => by simp)
 | some r =>
  obtain ⟨inner, ho⟩ := Kd.R_own h.kr
  obtain ⟨cells, hc⟩ := own_cells ho r hs
  rw [hs] at hg
  exact Kd.R_mono (Kd.R_step (Kd.R_types h.os hc (fun q hq => by
   have : q = 174 := by
    have hE : (174 :: F.k174.E) = [174] := rfl
    rw [hE] at hq
    simpa using hq
   rw [this]; decide)) (fun k hk hl => hg.block k hl (fun e => hk.2 (Option.some.inj e)))) (fun k hk => hk.1)
end
theorem info174 : (Tryz.prog.info? 174).map (fun i => (i.zero, i.size, i.bytes)) = some (some (.agg #[(.string ⟨#[]⟩), (.string ⟨#[]⟩)]), 2, 32) := by kernel_rfl
theorem und170 : Tryz.prog.underlying 170 = some (.slice 174) := by kernel_rfl
theorem attsD (a : C.S77) (l : List C.S77) (sp : List (List UInt8 × List UInt8)) (ks : List S24) : attsT (a :: l) sp ks =
  if a.f0.data.toList = [120, 109, 108, 110, 115] then attsT l (sp ++ [([], a.f1.data.toList)]) ks
  else if declD a.f0.data.toList = true then attsT l (sp ++ [(a.f0.data.toList.drop 6, a.f1.data.toList)]) ks
  else if colN a.f0.data.toList ≠ 0 then none
  else attsT l sp (ks ++ [⟨⟨#[64]⟩ ++ a.f0, a.f1, []⟩]) := by
 rw [attsT]
 by_cases q1 : a.f0.data.toList = [120, 109, 108, 110, 115]
 ·
  rw [if_pos q1, if_pos q1]
 ·
  rw [if_neg q1, if_neg q1]
  by_cases q2 : declD a.f0.data.toList = true
  ·
   have h2 := q2
   rw [decl_same] at h2
   simp only [decide_eq_true_eq] at h2
   rw [if_pos h2, if_pos q2, decl_drop _ q2]
  ·
   have h2 := q2
   rw [decl_same] at h2
   simp only [decide_eq_true_eq] at h2
   rw [if_neg h2, if_neg q2]
   by_cases q3 : colN a.f0.data.toList ≠ 0
   ·
    rw [if_pos q3, if_pos ((bad_same _).2 q3)]
   ·
    rw [if_neg q3, if_neg (fun h => q3 ((bad_same _).1 h))]
theorem spS_app (sp : List (List UInt8 × List UInt8)) (a b : List UInt8) : spS sp ++ [(⟨⟨a.toArray⟩, ⟨b.toArray⟩⟩ : F.S174)] = spS (sp ++ [(a, b)]) := by
 unfold spS
 rw [List.map_append]
 rfl
theorem spS_app1 (sp : List (List UInt8 × List UInt8)) (b : ByteArray) : spS sp ++ [(⟨⟨#[]⟩, b⟩ : F.S174)] = spS (sp ++ [([], b.data.toList)]) := spS_app sp [] b.data.toList
theorem ext_drop5 (s : ByteArray) (p : Nat) : s.extract p s.size = ⟨(s.data.toList.drop p).toArray⟩ := by rw [← Lib.extract_to_end]
theorem ext_take5 (s : ByteArray) (p : Nat) : s.extract 0 p = ⟨(s.data.toList.take p).toArray⟩ := by
 have h := Lib.extract_toList s 0 p
 rw [List.drop_zero, Nat.sub_zero, Lib.toList_data] at h
 rw [← h]
theorem colA_five (l : List UInt8) (h : colN l = 1) (h5 : colA l = 5) : 6 ≤ l.length := by
 rcases col_cases l with ⟨h1, _⟩ | ⟨a, b, e, _, _, h2, _⟩
 ·
  omega
 ·
  rw [e]; simp; omega
theorem spS_app2 (sp : List (List UInt8 × List UInt8)) (a : List UInt8) (b : ByteArray) : spS sp ++ [(⟨⟨a.toArray⟩, b⟩ : F.S174)] = spS (sp ++ [(a, b.data.toList)]) := spS_app sp a b.data.toList
def el13T : Bool × List (List Nat × List Nat) := (true, [([], []), ([], []), ([1], [1]), ([2], [2]), ([], []), ([4], [4]), ([3, 5], [3, 5]), ([6], [6]), ([0, 7], [0, 7]), ([8, 8, 0, 1, 2, 3, 4, 5, 6, 7, 8], [0, 8])])
def el13B : List Nat := [0, 0, 2, 6, 0, 16, 62, 126, 255, 511]
theorem el13tab : rtab .any (opsOf Tryz.f76 13) = el13T := by kernel_rfl
theorem el13bits : waitsOk el13T.2 el13B = true := by kernel_rfl
theorem colA_nat5 (l : List UInt8) (h : colN l = 1) : ∃ p : Nat, colA l = (p : Int) ∧ p < l.length ∧ prefD l = l.take p ∧ locD l = l.drop (p + 1) := by
 rcases col_cases l with ⟨h1, _⟩ | ⟨a, b, e, _, _, h2, _⟩
 ·
  omega
 ·
  refine ⟨a.length, h2, by rw [e]; simp, ?_, ?_⟩
  ·
   unfold prefD
   rw [if_pos h, h2]
   rfl
  ·
   unfold locD
   rw [if_pos h, h2]
   rfl
theorem wrapG {p : Prop} (h : Hid p) : p := h.out
theorem Ep.bad {wt w1 W : World} {g : Nat} {A : Option Addr} {c : Nat} {l44 : List C.S44} {n : Nat} {gv gt gq : Nat} {tc vs : Array Value} {kv ov : Value} {ks : List S24} {sp : List (List UInt8 × List UInt8)} {i m : Nat} {space : ByteArray} (h : Ep wt w1 W g A c l44 n gv gt gq tc vs kv ov ks sp i m space) (o : Lq wt w1 g gv gt gq) {a er : Int} (he : er ≠ 0) (x0 x1 : ByteArray) (xa : Option Addr) (xn xc : Nat) (q : Nat) :
  ERes g A c l44 n w1 (.error (a, er)) (.returned (.tuple #[.agg #[.string x0, .string x1, .slice xa xn xc], .int .i64 a, .int .i64 er])) ((((W.setCell ⟨gq, 0, none⟩ (.string x0)).setCell ⟨gq, 1, none⟩ (.string x1)).setCell ⟨gq, 2, none⟩ (.slice xa xn xc)).drewN q) := by
 have o1 := o.hwt
 have o2 := o.hg
 have o4 := o.hv
 have o5 := o.ht
 have o6 := o.hq
 exact ⟨(ch_far3 h.ch o2 (by omega) _ _ _).drewN q, he, x0, x1, xa, xn, xc, rfl⟩
theorem sp_set {w : World} {A : Option Addr} {n : Nat} {xs : List F.S174} {p : Addr} {z : Int} {v : Value} (h : Kd.C F.k174 w A n xs) (h1 : w.cell? p = some (.int .i64 z)) : Kd.C F.k174 (w.setCell p v) A n xs := by
 refine ⟨h.1, h.2.1, fun hn => ?_⟩
 obtain ⟨ad, e, hh⟩ := h.2.2 hn
 refine ⟨ad, e, fun j q hq => ?_⟩
 obtain ⟨cs, hl, hK, hc⟩ := hh j q hq
 obtain rfl := F.k174_open hK
 refine ⟨_, hl, F.k174_mk _ q, fun i u hu => ?_⟩
 have h2 := hc i u hu
 refine (World.cell?_setCell_other _ _ _ _ (fun e => ?_)).trans h2
 rw [← e, h1] at h2
 injection h2 with h2
 subst h2
 match i, hu with
 | 0, hu => cases hu
 | 1, hu => cases hu
 | i + 2, hu => cases hu
def el1T : Bool × List (List Nat × List Nat) := (true, [([], []), ([0], [0]), ([1], [1]), ([2], [2]), ([], []), ([4], [4]), ([5], [5]), ([6], [6]), ([3, 7], [3, 7]), ([8], [8]), ([], []), ([10, 9, 0, 1, 2, 3, 4, 5, 6, 7, 8, 9, 10], [9, 10])])
def el1B : List Nat := [0, 1, 3, 7, 0, 16, 48, 112, 255, 511, 0, 2047]
theorem el1tab : rtab .any (opsOf Tryz.f76 1) = el1T := by kernel_rfl
theorem el1bits : waitsOk el1T.2 el1B = true := by kernel_rfl
set_option maxHeartbeats 16000000 in
set_option maxRecDepth 100000 in
theorem elem_of {wt : World} {g : Nat} {A : Option Addr} {c : Nat} {l44 : List C.S44} {n k : Nat} (hT : Tw wt g A l44 n) (ih : RestAt wt g A c l44 n k) : ElemAt wt g A c l44 n (k + 1) := by
 intro W i m space toks A2 c2 sp deep f hS hB hC hc hd hne hk hf hdp hm hsp
 cases toks with
 | nil => exact absurd rfl hne
 | cons t r =>
 have hgW : g < W.heap.size := (Array.getElem?_eq_some_iff.1 hS).1
 obtain ⟨hil, hok, hd1, ad, A3, c3, rfl, hx0, hx1, hx2, hx3, hx4, hx5, hl3, hi3, hlt⟩ := tok_get hT hd hB
 have HD1 := Lib.hid hd1
 have HOK := Lib.hid hok
 have HI3 := Lib.hid hi3
 have hba := below_alloc (Below.refl W.heap.size W) (.cells #[.string ⟨#[]⟩, .string ⟨#[]⟩, .slice none 0 0] 24)
 have hq0 := (MapKept.heap_alloc W (.cells #[.string ⟨#[]⟩, .string ⟨#[]⟩, .slice none 0 0] 24)).1
 have hbb := hba.trans ((below_drew (Below.refl (W.alloc (.cells #[.string ⟨#[]⟩, .string ⟨#[]⟩, .slice none 0 0] 24)).heap.size (W.alloc (.cells #[.string ⟨#[]⟩, .string ⟨#[]⟩, .slice none 0 0] 24)))).mono hba.size)
 have HBB := Lib.hid hbb
 have HQ1 := Lib.hid (show ((W.alloc (.cells #[.string ⟨#[]⟩, .string ⟨#[]⟩, .slice none 0 0] 24)).drew).heap[W.heap.size]? = _ from hq0)
 have HC := Lib.hid hC
 have HS := Lib.hid hS
 have HB := Lib.hid hB
 have HT := Lib.hid hT
 have IH := Lib.hid ih
 obtain ⟨R, hR⟩ : ∃ R, elemS (n : Int) f sp deep m space (t :: r) = R := ⟨_, rfl⟩
 rw [hR]
 have HR := Lib.hid hR
 have s0 := crow 0 (Value.slice (some ad) (l44.map C.tr44).length c) ((hba.block g hgW).trans hS)
 have s1 := crow 1 (Value.int .i64 (i : Int)) ((hba.block g hgW).trans hS)
 rw [List.length_map] at s0
 replace hx0 := (hba.cell (World.block_lt_of_cell? W _ hx0)).trans hx0
 replace hx1 := (hba.cell (World.block_lt_of_cell? W _ hx1)).trans hx1
 replace hx2 := (hba.cell (World.block_lt_of_cell? W _ hx2)).trans hx2
 replace hx3 := (hba.cell (World.block_lt_of_cell? W _ hx3)).trans hx3
 replace hx4 := (hba.cell (World.block_lt_of_cell? W _ hx4)).trans hx4
 replace hx5 := (hba.cell (World.block_lt_of_cell? W _ hx5)).trans hx5
 have b1 : decide ((i : Int) < (l44.length : Int)) = true := decide_eq_true (by omega)
 have b2 : decide (i < l44.length) = true := decide_eq_true (by omega)
 have b3 : (0 : Int) ≤ (i : Int) := by omega
 have b4 : (i : Int) < (l44.length : Int) := by omega
 have hi4 : i ≤ 1048576 := by have := hT.len; omega
 have hkr : r.length ≤ k := by simp only [List.length_cons] at hk; omega
 have hfr : r.length ≤ f := by simp only [List.length_cons] at hf; omega
 clear hd1 hok hi3 hl3 hba hq0 hbb hC hS hB hT ih hR hk hf hne hd
 go_enter Tryz.func76, Tryz.ntmps76
 go_upto_region 1 with fail
 generalize hW1 : W.alloc (.cells #[.string ⟨#[]⟩, .string ⟨#[]⟩, .slice none 0 0] 24) = W1 at s0 s1 hx0 hx1 hx2 hx3 hx4 hx5 HBB HQ1 ⊢
 refine start_ (n := 12) (S := fun w' => w'.cell? ⟨g, 0, none⟩ = some (.slice (some ad) l44.length c) ∧ w'.cell? ⟨g, 1, none⟩ = some (.int .i64 (i : Int)) ∧ w'.cell? (ad.add (i * 6)) = some (.int .u8 t.f0) ∧ w'.cell? ⟨(ad.add (i * 6)).block, (ad.add (i * 6)).off + 1, none⟩ = some (.string t.f1) ∧ w'.cell? ⟨(ad.add (i * 6)).block, (ad.add (i * 6)).off + 2, none⟩ = some (.string t.f2) ∧ w'.cell? ⟨(ad.add (i * 6)).block, (ad.add (i * 6)).off + 3, none⟩ = some (.slice A3 t.f3.length c3) ∧ w'.cell? ⟨(ad.add (i * 6)).block, (ad.add (i * 6)).off + 4, none⟩ = some (.bool t.f4) ∧ w'.cell? ⟨(ad.add (i * 6)).block, (ad.add (i * 6)).off + 5, none⟩ = some (.int .i64 t.f5)) (ds := [11]) (ms5 0 12) (by kernel_rfl) rfl rfl ⟨s0, s1, hx0, hx1, hx2, hx3, hx4, hx5⟩ (fun hHeld => ?_)
 refine with_tabW el1tab el1bits (fun HT_ HW_ => ?_)
 generalize (W1).drew = w6 at HBB HQ1 hHeld ⊢
 refine pure_ (i := 0) (N := some 22) (v := ?_) (a' := ?_) (ms5 1 11) rfl rfl (any_of HT_.out (by kernel_rfl)) (fun _ _ _ h => h) (Or.inl ⟨by rfl, ?_⟩) ?_ ?_
 rotate_left
 ·
  intro w'
  go_simp
  with_reducible rfl
 rotate_left
 ·
  go_simp
  rfl
 refine pure_ (i := 1) (N := some 23) (v := ?_) (a' := ?_) (ms5 2 10) rfl rfl (any_of HT_.out (by kernel_rfl)) (fun _ _ _ h => h) (Or.inl ⟨by rfl, ?_⟩) ?_ ?_
 rotate_left
 ·
  intro w'
  go_simp
  with_reducible rfl
 rotate_left
 ·
  go_simp
  rfl
 refine pure_ (i := 2) (N := some 24) (v := ?_) (a' := ?_) (ms5 3 9) rfl rfl (any_of HT_.out (by kernel_rfl)) (fun _ _ _ h => h) (Or.inl ⟨by rfl, ?_⟩) ?_ ?_
 rotate_left
 ·
  intro w'
  go_simp
  with_reducible rfl
 rotate_left
 ·
  go_simp
  rfl
 refine take_ (i := 3) (N := some 25) (v := ?_) (a' := ?_) (ms5 4 8) rfl rfl (take_ofW HT_.out HW_.out (by kernel_rfl)) (fun _ _ _ h => h) (Or.inl ⟨by rfl, ?_⟩) hHeld ?_ ?_
 rotate_left
 ·
  rintro w' ⟨s0, s1, s2, s3, s4, s5, s6, s7⟩
  go_simp
  with_reducible rfl
 rotate_left
 ·
  go_simp
  rfl
 refine pure_ (i := 4) (N := some 26) (v := ?_) (a' := ?_) (ms5 5 7) rfl rfl (any_of HT_.out (by kernel_rfl)) (fun _ _ _ h => h) (Or.inl ⟨by rfl, ?_⟩) ?_ ?_
 rotate_left
 ·
  intro w'
  go_simp
  with_reducible rfl
 rotate_left
 ·
  go_simp
  rfl
 refine pure_ (i := 5) (N := some 27) (v := ?_) (a' := ?_) (ms5 6 6) rfl rfl (any_of HT_.out (by kernel_rfl)) (fun _ _ _ h => h) (Or.inl ⟨by rfl, ?_⟩) ?_ ?_
 rotate_left
 ·
  intro w'
  go_simp
  with_reducible rfl
 rotate_left
 ·
  go_simp
  rfl
 refine pure_ (i := 6) (N := some 28) (v := ?_) (a' := ?_) (ms5 7 5) rfl rfl (any_of HT_.out (by kernel_rfl)) (fun _ _ _ h => h) (Or.inl ⟨by rfl, ?_⟩) ?_ ?_
 rotate_left
 ·
  intro w'
  go_simp
  with_reducible rfl
 rotate_left
 ·
  go_simp
  rfl
 refine take_ (i := 7) (N := some 29) (v := ?_) (a' := ?_) (ms5 8 4) rfl rfl (take_ofW HT_.out HW_.out (by kernel_rfl)) (fun _ _ _ h => h) (Or.inl ⟨by rfl, ?_⟩) hHeld ?_ ?_
 rotate_left
 ·
  rintro w' ⟨s0, s1, s2, s3, s4, s5, s6, s7⟩
  go_simp
  with_reducible rfl
 rotate_left
 ·
  go_simp
  rfl
 refine pure_ (i := 8) (N := some 30) (v := ?_) (a' := ?_) (ms5 9 3) rfl rfl (any_of HT_.out (by kernel_rfl)) (fun _ _ _ h => h) (Or.inl ⟨by rfl, ?_⟩) ?_ ?_
 rotate_left
 ·
  intro w'
  go_simp
  with_reducible rfl
 rotate_left
 ·
  go_simp
  rfl
 refine take_ (i := 9) (N := some 31) (v := ?_) (a' := ?_) (ms5 10 2) rfl rfl (take_ofW HT_.out HW_.out (by kernel_rfl)) (fun _ _ _ h => h) (Or.inl ⟨by rfl, ?_⟩) hHeld ?_ ?_
 rotate_left
 ·
  rintro w' ⟨s0, s1, s2, s3, s4, s5, s6, s7⟩
  go_simp
  with_reducible rfl
 rotate_left
 ·
  go_simp
  rfl
 refine one_ (i := 10) (N := some 9) (ms5 11 1) rfl rfl (one_of HT_.out (by kernel_rfl)) (by decide) (fun K hK => ?_)
 refine value_ (w1 := ?_) (v := ?_) (by rfl) rfl ?_ ?_
 rotate_left 2
 ·
  go_simp
  constructor
  ·
   rfl
  ·
   rfl
 have hba := below_alloc (Below.refl w6.heap.size w6)
 refine hK.out _ _ ⟨cellB (hba _) hHeld.1, cellB (hba _) hHeld.2.1, cellB (hba _) hHeld.2.2.1, cellB (hba _) hHeld.2.2.2.1, cellB (hba _) hHeld.2.2.2.2.1, cellB (hba _) hHeld.2.2.2.2.2.1, cellB (hba _) hHeld.2.2.2.2.2.2.1, cellB (hba _) hHeld.2.2.2.2.2.2.2⟩ (fun _ => ?_)
 clear hK K hba
 refine norm_ (a' := ?_) ?_ ?_
 rotate_left
 ·
  show Act.put _ (some 9) _ = _
  go_simp
  rfl
 refine last_ (i := 11) (N := none) (ms5 12 0) rfl rfl (one_of HT_.out (by kernel_rfl)) (by decide) (fun K hK => ?_)
 refine skip_ (w1 := ?_) (by rfl) rfl ?_ ?_
 rotate_left
 ·
  go_simp
  rfl
 refine hK.out _ _ ?_
 clear hK K
 refine done_ (done_of HT_.out (by kernel_rfl)) ?_
 clear HT_ HW_ hHeld s0 s1 hx0 hx1 hx2 hx3 hx4 hx5 hW1
 have hba6 := below_alloc (Below.refl w6.heap.size w6) (.cells #[.int .u8 t.f0, .string t.f1, .string t.f2, .slice A3 t.f3.length c3, .bool t.f4, .int .i64 t.f5] 88)
 have hx7 := (MapKept.heap_alloc w6 (.cells #[.int .u8 t.f0, .string t.f1, .string t.f2, .slice A3 t.f3.length c3, .bool t.f4, .int .i64 t.f5] 88)).1
 have hgq : W.heap.size < w6.heap.size := (Array.getElem?_eq_some_iff.1 HQ1.out).1
 have hq7 := (hba6.block _ hgq).trans HQ1.out
 have hb7 := HBB.out.trans (hba6.mono HBB.out.size)
 have hs7 : Sst g (some ad) c (l44.map C.tr44) i n m space _ := (hb7.block g hgW).trans HS.out
 have hsz7 : w6.heap.size < (w6.alloc (.cells #[.int .u8 t.f0, .string t.f1, .string t.f2, .slice A3 t.f3.length c3, .bool t.f4, .int .i64 t.f5] 88)).heap.size := (Array.getElem?_eq_some_iff.1 hx7).1
 clear HBB HQ1 hba6
 obtain ⟨gq, hgqe⟩ : ∃ p, W.heap.size = p := ⟨_, rfl⟩
 generalize w6.heap.size = gt at hx7 hgq hsz7 ⊢
 generalize w6.alloc _ = w7 at hx7 hq7 hb7 hs7 hsz7 ⊢
 rw [hgqe] at hgq hq7 ⊢
 have HGQ := Lib.hid hgqe
 have s1 := crow 1 (Value.int .i64 (i : Int)) hs7
 have fs1 := frozen_of_row _ _ 1 _ _ hs7
 have hlw := HT.out.low
 have hgg : g < gq := by omega
 have hL : Ep wt W ((w7.setCell ⟨g, 1, none⟩ (.int .i64 ((i : Int) + 1))).alloc (.cells #[.string ⟨#[]⟩, .string ⟨#[]⟩, .slice none 0 0] 24)) g (some ad) c l44 n w7.heap.size gt gq #[.int .u8 t.f0, .string t.f1, .string t.f2, .slice A3 t.f3.length c3, .bool t.f4, .int .i64 t.f5] #[.string ⟨#[]⟩, .string ⟨#[]⟩, .slice none 0 0] (.slice none 0 0) (.slice none 0 0) [] [] (i + 1) m space := by
  have hb9 := below_alloc (Below.refl (w7.setCell ⟨g, 1, none⟩ (.int .i64 ((i : Int) + 1))).heap.size (w7.setCell ⟨g, 1, none⟩ (.int .i64 ((i : Int) + 1)))) (.cells #[.string ⟨#[]⟩, .string ⟨#[]⟩, .slice none 0 0] 24)
  have hm9 := (MapKept.heap_alloc (w7.setCell ⟨g, 1, none⟩ (.int .i64 ((i : Int) + 1))) (.cells #[.string ⟨#[]⟩, .string ⟨#[]⟩, .slice none 0 0] 24)).1
  have hz : (w7.setCell ⟨g, 1, none⟩ (.int .i64 ((i : Int) + 1))).heap.size = w7.heap.size := by simp
  rw [hz] at hm9
  have hc7 : Ch g W w7 := ch_below (Ch.refl g W) hgW (by rw [hgqe]; rw [hgqe] at hb7; exact hb7)
  have hk : ∀ (p : Nat) (x : Obj), p ≠ g → w7.heap[p]? = some x → ((w7.setCell ⟨g, 1, none⟩ (.int .i64 ((i : Int) + 1))).alloc (.cells #[.string ⟨#[]⟩, .string ⟨#[]⟩, .slice none 0 0] 24)).heap[p]? = some x := fun p x hp hx => (hb9.block p (by rw [hz]; exact (Array.getElem?_eq_some_iff.1 hx).1)).trans ((Below.heap_setCell w7 ⟨g, 1, none⟩ (.int .i64 ((i : Int) + 1)) p hp).trans hx)
  have hcs := hc7.set 1 (.int .i64 ((i : Int) + 1))
  exact ⟨(hb9.block g (by rw [hz]; exact (Array.getElem?_eq_some_iff.1 hs7).1)).trans ((blk_set hs7 1 (.int .i64 ((i : Int) + 1))).trans rfl), HB.out.trans ((ch_below hcs hgW hb9).1.mono hlw), ch_below hcs hgW hb9, hm9, hk _ _ (by omega) hx7, hk _ _ (by omega) hq7, Kd.R_nil _ _ _ _ _, Kd.R_nil _ _ _ _ _⟩
 have HC8P : Hid (F.k174.C ((w7.setCell ⟨g, 1, none⟩ (.int .i64 ((i : Int) + 1))).alloc (.cells #[.string ⟨#[]⟩, .string ⟨#[]⟩, .slice none 0 0] 24)) A2 (spS sp).length (spS sp)) := Lib.hid (Kd.C_below (sp_set (Kd.C_below HC.out hb7) s1) (below_alloc (Below.refl _ _) _))
 have HL1 := Lib.hid hL
 have HLQ := Lib.hid (Lq.mk (wt := wt) (w1 := W) (g := g) (gv := w7.heap.size) (gt := gt) (gq := gq) hlw hgW (by omega) hgq hsz7)
 clear hL hgqe
 go_upto_region 4 with fail
 clear hx7 hq7 hb7 hs7 s1 fs1 hsz7 hgq b1 b2 b3 b4 hlt HB hlw
 generalize w7.heap.size = gv at HL1 HLQ ⊢
 generalize (w7.setCell _ _).alloc _ = w8 at HL1 HC8P ⊢
 clear HC
 go_wp2_with (at_builtin; refine wrapG ?_)
 refine Lib.hid ?_
 refine Kd.R_append_rows F.k174 (Rr := F.k174.K w8) (w0 := w8) (W := w8) W.heap.size rfl (.const (.slice none 0 0)) (.tmp 40) 170 174 (.agg #[(.string ⟨#[]⟩), (.string ⟨#[]⟩)]) 32 rfl und170 info174 rfl (by decide) (by decide) (.slice none 0 0) [] (spS sp) A2 (spS sp).length c2 (fun _ => True) (fun _ => True) (by simp [Act.eval, Act.put]) (by simp [Act.eval, Act.put]) HL1.out.os HC8P.out (fun x cs hx => by obtain rfl := F.k174_open hx; exact F.k174_mkM _ _ _ x) (fun _ _ => ⟨trivial, by simp [Value.ownBlock]⟩) (fun _ _ => trivial) (Below.refl _ _) (by have := HL1.out.ch.2.1; omega) (by have : (spS sp).length = sp.length := List.length_map ..; simp only [List.length_nil]; omega) ?_
 intro v5 w5 hA5 hb5 hg5 hat5
 rw [List.nil_append] at hA5
 obtain ⟨Ao, co, rfl⟩ := Kd.R_slice hA5
 have HL2 := Lib.hid (HL1.out.spaces HLQ.out hg5 hA5)
 clear hA5 hb5 hg5 hat5 HL1 HC8P
 go_wp2_with fail
 go_loopg [11, 12] (t.f3.length + 1) (fun kq v11 v12 wr => ∃ (j : Nat) (sp' : List (List UInt8 × List UInt8)) (ks' : List S24) (Ao' Ak' : Option Addr) (co' ck' : Nat), v11 = .slice Ao' (spS sp').length co' ∧ v12 = .int .i64 j ∧ j ≤ t.f3.length ∧ Aside0 (kq + j = t.f3.length + 1) ∧ Aside0 (ks'.length ≤ j ∧ sp'.length ≤ sp.length + j) ∧ Aside0 (attsT (t.f3.drop j) sp' ks' = attsT t.f3 sp []) ∧ Aside0 (Ep wt W wr g (some ad) c l44 n gv gt gq #[.int .u8 t.f0, .string t.f1, .string t.f2, .slice A3 t.f3.length c3, .bool t.f4, .int .i64 t.f5] #[.string ⟨#[]⟩, .string ⟨#[]⟩, .slice Ak' ks'.length ck'] (.slice Ak' ks'.length ck') (.slice Ao' (spS sp').length co') ks' sp' (i + 1) (m + ks'.length) space))
 case atStart => exact ⟨0, sp, [], Ao, none, co, 0, rfl, rfl, Nat.zero_le _, ⟨rfl⟩, ⟨Nat.zero_le _, Nat.le_refl _⟩, ⟨rfl⟩, ⟨HL2.out⟩⟩
 case round =>
  clear HL2
  obtain ⟨j, sp', ks', Ao', Ak', co', ck', rfl, rfl, hj, HKQ, HLE, HAT, HL⟩ := hrel
  have t3 := crow 3 (Value.slice A3 t.f3.length c3) HL.out.tb
  have hmn := HOK.out.many
  by_cases hjl : j < t.f3.length
  ·
   have b1 : decide ((j : Int) < (t.f3.length : Int)) = true := decide_eq_true (by omega)
   have b2 : decide (j < t.f3.length) = true := decide_eq_true hjl
   have b3 : (0 : Int) ≤ (j : Int) := by omega
   have b4 : (j : Int) < (t.f3.length : Int) := by omega
   obtain ⟨ba, hbe, ha0, ha1⟩ := C.at_T92 HI3.out (j : Int) (by omega) (by simpa using b4)
   rw [C.rd_map77 _ j hjl] at ha0 ha1
   have hae : t.f3.drop j = C.rd_T77 t.f3 (j : Int) :: t.f3.drop (j + 1) := by
    rw [List.drop_eq_getElem_cons hjl]
    unfold C.rd_T77
    rw [Int.toNat_natCast, List.getD_eq_getElem?_getD, List.getElem?_eq_getElem hjl]
    rfl
   have hmem : C.rd_T77 t.f3 (j : Int) ∈ t.f3 := List.mem_of_mem_drop (by rw [hae]; exact List.mem_cons_self ..)
   obtain ⟨hs0, hs1⟩ := HOK.out.atts _ hmem
   have hat := HAT.out
   rw [hae, attsD] at hat
   have HAT2 := Lib.hid hat
   simp only [Int.toNat_natCast] at ha0 ha1
   replace ha0 : wt.cell? (ba.add (j * 2)) = some (.string (C.rd_T77 t.f3 (j : Int)).f0) := ha0
   replace ha1 : wt.cell? ⟨(ba.add (j * 2)).block, (ba.add (j * 2)).off + 1, none⟩ = some (.string (C.rd_T77 t.f3 (j : Int)).f1) := ha1
   clear hmem hae HAT hat
   generalize C.rd_T77 t.f3 (j : Int) = x at *
   subst hbe
   replace ha0 := (HL.out.low.cell (World.block_lt_of_cell? wt _ ha0)).trans ha0
   replace ha1 := (HL.out.low.cell (World.block_lt_of_cell? wt _ ha1)).trans ha1
   go_wp2_with fail
   refine (colons_any x.f0 _ (by omega)).mono ?_
   rintro e w3 ⟨rfl, hdr⟩
   obtain ⟨nq, rfl⟩ := hdr
   have hba := below_alloc (Below.refl wr.heap.size wr) (.cells #[.string x.f0, .string x.f1] 92)
   have hA0 := (MapKept.heap_alloc wr (.cells #[.string x.f0, .string x.f1] 92)).1
   have HL3 := Lib.hid ((HL.out.below HLQ.out hba).below HLQ.out (pw_below_drewN (Below.refl _ _) nq))
   have hA3 : ((wr.alloc (.cells #[.string x.f0, .string x.f1] 92)).drewN nq).heap[wr.heap.size]? = _ := hA0
   clear hba hA0 HL ha0 ha1 t3
   generalize wr.heap.size = ga at hA3 ⊢
   generalize (wr.alloc _).drewN nq = w3 at HL3 hA3 ⊢
   have HA3 := Lib.hid hA3
   have a0 := crow 0 (Value.string x.f0) hA3
   have a1 := crow 1 (Value.string x.f1) hA3
   clear hA3 b1 b2 b3 b4
   have hat := HAT2.out
   have hle := HLE.out
   clear HAT2
   dsimp only
   by_cases q1 : x.f0.data.toList = [120, 109, 108, 110, 115]
   ·
    as_aux_lemma =>
     rw [if_pos q1] at hat
     have z1 : (x.f0.toList == [120, 109, 108, 110, 115]) = true := by rw [Lib.toList_data, q1]; rfl
     clear q1
     go_wp2_with (at_builtin; refine Kd.R_append F.k174 (w0 := w3) (W := w3) W.heap.size rfl (.tmp 63) (.tmp 67) 170 174 (.agg #[(.string ⟨#[]⟩), (.string ⟨#[]⟩)]) 32 rfl und170 info174 rfl (by decide) (by decide) (.slice Ao' (spS sp').length co') (spS sp') ⟨⟨#[]⟩, x.f1⟩ [.string ⟨#[]⟩, .string x.f1] (fun _ => True) (fun _ => False) (by simp [Act.eval, Act.put]) (by simp [Act.eval, Act.put]) (F.k174_mkM _ _ _ ⟨⟨#[]⟩, x.f1⟩) (fun k hk => hk.elim) (fun k hk => trivial) HL3.out.os (Below.refl _ _) (by have := HL3.out.ch.2.1; omega) (by have : (spS sp').length = sp'.length := List.length_map ..; omega) ?_)
     intro v5 w5 hA5 hb5 hg5 hat5
     rw [spS_app1] at hA5
     obtain ⟨A5, c5, rfl⟩ := Kd.R_slice hA5
     have HL4 := Lib.hid (HL3.out.spaces HLQ.out hg5 hA5)
     clear hA5 hb5 hg5 hat5
     go_wp2_with fail
     go_roundg (t.f3.length - j)
     case measure => have := HKQ.out; omega
     case rel => exact ⟨j + 1, _, ks', A5, Ak', c5, ck', rfl, by go_num, by omega, ⟨by omega⟩, ⟨by omega, by simp; omega⟩, ⟨hat⟩, ⟨HL4.out⟩⟩
   ·
    rw [if_neg q1] at hat
    have z1 : (x.f0.toList == [120, 109, 108, 110, 115]) = false := by
     rw [Lib.toList_data]; simpa using q1
    clear q1
    by_cases q2 : declD x.f0.data.toList = true
    ·
     skip
     rw [if_pos q2] at hat
     have hq := q2
     unfold declD at hq
     simp only [Bool.and_eq_true, decide_eq_true_eq, beq_iff_eq] at hq
     obtain ⟨⟨⟨n1, n2⟩, n3⟩, n4⟩ := hq
     have y1 : ((colN x.f0.data.toList : Int) == 1) = true := by rw [n1]; rfl
     have y2 : (colA x.f0.data.toList == 5) = true := by rw [n2]; rfl
     have y3 : ((x.f0.extract 0 5).toList == [120, 109, 108, 110, 115]) = true := by rw [Lib.toList_data, ext_take5]; show (List.take 5 x.f0.data.toList == _) = true; rw [n3]; rfl
     have y6 : 6 < x.f0.size := by rw [Lib.size_eq]; omega
     have y4 : decide ((6 : Int) < (x.f0.size : Int)) = true := decide_eq_true (by omega)
     have y8 : (6 : Int) ≤ (x.f0.size : Int) := by omega
     have y5 : decide (6 < x.f0.size) = true := decide_eq_true y6
     have hd6 := below_drew (Below.refl w3.heap.size w3)
     have HL4 := Lib.hid (HL3.out.below HLQ.out hd6)
     have HA4 := Lib.hid (show w3.drew.heap[ga]? = _ from HA3.out)
     clear q2 n1 n2 n3 n4 hd6 hs1
     go_wp2_with fail
     refine start_ (n := 10) (S := fun w' => w'.cell? ⟨ga, 0, none⟩ = some (.string x.f0) ∧ w'.cell? ⟨ga, 1, none⟩ = some (.string x.f1)) (ds := [8]) (ms5 0 10) (by kernel_rfl) rfl rfl ⟨a0, a1⟩ (fun hHeld => ?_)
     refine with_tabW el13tab el13bits (fun HT_ HW_ => ?_)
     generalize w3.drew = w6 at HL4 HA4 hHeld ⊢
     refine pure_ (i := 0) (N := some 87) (v := ?_) (a' := ?_) (ms5 1 9) rfl rfl (any_of HT_.out (by kernel_rfl)) (fun _ _ _ h => h) (Or.inl ⟨by rfl, ?_⟩) ?_ ?_
     rotate_left
     ·
      intro w'
      go_simp
      with_reducible rfl
     rotate_left
     ·
      go_simp
      rfl
     refine pure_ (i := 1) (N := some 88) (v := ?_) (a' := ?_) (ms5 2 8) rfl rfl (any_of HT_.out (by kernel_rfl)) (fun _ _ _ h => h) (Or.inl ⟨by rfl, ?_⟩) ?_ ?_
     rotate_left
     ·
      intro w'
      go_simp
      with_reducible rfl
     rotate_left
     ·
      go_simp
      rfl
     refine take_ (i := 2) (N := some 89) (v := ?_) (a' := ?_) (ms5 3 7) rfl rfl (take_ofW HT_.out HW_.out (by kernel_rfl)) (fun _ _ _ h => h) (Or.inl ⟨by rfl, ?_⟩) hHeld ?_ ?_
     rotate_left
     ·
      rintro w' ⟨s0, s1⟩
      go_simp
      with_reducible rfl
     rotate_left
     ·
      go_simp
      rfl
     refine pure_ (i := 3) (N := some 90) (v := ?_) (a' := ?_) (ms5 4 6) rfl rfl (any_of HT_.out (by kernel_rfl)) (fun _ _ _ h => h) (Or.inl ⟨by rfl, ?_⟩) ?_ ?_
     rotate_left
     ·
      intro w'
      go_simp
      with_reducible rfl
     rotate_left
     ·
      go_simp
      rfl
     refine pure_ (i := 4) (N := some 91) (v := ?_) (a' := ?_) (ms5 5 5) rfl rfl (any_of HT_.out (by kernel_rfl)) (fun _ _ _ h => h) (Or.inl ⟨by rfl, ?_⟩) ?_ ?_
     rotate_left
     ·
      intro w'
      go_simp
      with_reducible rfl
     rotate_left
     ·
      go_simp
      rfl
     refine take_ (i := 5) (N := some 92) (v := ?_) (a' := ?_) (ms5 6 4) rfl rfl (take_ofW HT_.out HW_.out (by kernel_rfl)) (fun _ _ _ h => h) (Or.inl ⟨by rfl, ?_⟩) hHeld ?_ ?_
     rotate_left
     ·
      rintro w' ⟨s0, s1⟩
      go_simp
      with_reducible rfl
     rotate_left
     ·
      go_simp
      rfl
     refine pure_ (i := 6) (N := some 93) (v := ?_) (a' := ?_) (ms5 7 3) rfl rfl (any_of HT_.out (by kernel_rfl)) (fun _ _ _ h => h) (Or.inl ⟨by rfl, ?_⟩) ?_ ?_
     rotate_left
     ·
      intro w'
      go_simp
      with_reducible rfl
     rotate_left
     ·
      go_simp
      rfl
     refine one_ (i := 7) (N := some 94) (ms5 8 2) rfl rfl (one_of HT_.out (by kernel_rfl)) (by decide) (fun K hK => ?_)
     refine value_ (w1 := ?_) (v := ?_) (by rfl) rfl ?_ ?_
     rotate_left 2
     ·
      go_simp
      constructor
      ·
       rfl
      ·
       rfl
     have hba := below_alloc (Below.refl w6.heap.size w6)
     refine hK.out _ _ ⟨cellB (hba _) hHeld.1, cellB (hba _) hHeld.2⟩ (fun _ => ?_)
     clear hK K hba
     refine norm_ (a' := ?_) ?_ ?_
     rotate_left
     ·
      show Act.put _ (some 94) _ = _
      go_simp
      rfl
     refine last_ (i := 8) (N := some 95) (ms5 9 1) rfl rfl (one_of HT_.out (by kernel_rfl)) (by decide) (fun K hK => ?_)
     refine Kd.R_append_step F.k174 (w0 := w6) (W := w6) W.heap.size (by rfl) (.tmp 87) (.tmp 94) 170 174 (.agg #[(.string ⟨#[]⟩), (.string ⟨#[]⟩)]) 32 rfl und170 info174 rfl (by decide) (by decide) (.slice Ao' (spS sp').length co') (spS sp') ⟨x.f0.extract 6 x.f0.size, x.f1⟩ [.string (x.f0.extract 6 x.f0.size), .string x.f1] (fun _ => True) (fun _ => False) rfl rfl (F.k174_mkM _ _ _ ⟨x.f0.extract 6 x.f0.size, x.f1⟩) (fun k hk => hk.elim) (fun k hk => trivial) HL4.out.os (Below.refl _ _) (by have := HL4.out.ch.2.1; omega) (by have : (spS sp').length = sp'.length := List.length_map ..; omega) ?_
     intro v5 w5 hA5 hb5 hg5 hat5
     rw [ext_drop5, spS_app2] at hA5
     obtain ⟨A5, c5, rfl⟩ := Kd.R_slice hA5
     have HL5 := Lib.hid (HL4.out.spaces HLQ.out hg5 hA5)
     clear hA5 hb5 hg5 hat5
     refine hK.out _ _ ?_
     clear hK K
     refine norm_ (a' := ?_) ?_ ?_
     rotate_left
     ·
      show Act.put _ (some 95) _ = _
      go_simp
      rfl
     refine pure_ (i := 9) (N := some 11) (v := ?_) (a' := ?_) (ms5 10 0) rfl rfl (any_of HT_.out (by kernel_rfl)) (fun _ _ _ h => h) (Or.inl ⟨by rfl, ?_⟩) ?_ ?_
     rotate_left
     ·
      intro w'
      go_simp
      with_reducible rfl
     rotate_left
     ·
      go_simp
      rfl
     refine done_ (done_of HT_.out (by kernel_rfl)) ?_
     go_wp2_with fail
     go_roundg (t.f3.length - j)
     case measure => have := HKQ.out; omega
     case rel => exact ⟨j + 1, _, ks', A5, Ak', c5, ck', rfl, by go_num, by omega, ⟨by omega⟩, ⟨by omega, by simp; omega⟩, ⟨hat⟩, ⟨HL5.out⟩⟩
    ·
     rw [if_neg q2] at hat
     unfold declD at q2
     by_cases n0 : colN x.f0.data.toList = 0
     ·
      skip
      rw [if_neg (by omega)] at hat
      have y1 : ((colN x.f0.data.toList : Int) == 1) = false := by rw [n0]; rfl
      have y0 : decide ((0 : Int) < (colN x.f0.data.toList : Int)) = false := decide_eq_false (by omega)
      have y7 : decide (0 < colN x.f0.data.toList) = false := decide_eq_false (by omega)
      obtain ⟨M, hM⟩ : ∃ M, m + ks'.length = M := ⟨_, rfl⟩
      rw [hM] at HL3
      have hM2 : M ≤ 20020 := by omega
      have hM3 : m + (ks'.length + 1) = M + 1 := by omega
      have hz1 : (9223372036854775807 < 1 + x.f0.size) = False := eq_false (by omega)
      have hz2 : (9223372036854775807 < x.f0.size + 1) = False := eq_false (by omega)
      have hlv : gv < w3.heap.size := (Array.getElem?_eq_some_iff.1 HL3.out.vb).1
      have hlq : gq < w3.heap.size := (Array.getElem?_eq_some_iff.1 HL3.out.qb).1
      have v2 := crow 2 (Value.slice Ak' ks'.length ck') HL3.out.vb
      clear q2 n0 hM
      go_wp2_with (at_builtin; refine Kd.R_append k24 (w0 := w3) (W := w3) W.heap.size rfl (.tmp 102) (.tmp 109) 22 24 (.agg #[(.string ⟨#[]⟩), (.string ⟨#[]⟩), (.slice none 0 0)]) 56 rfl Tryz.underlying22 info24 rfl (by decide) (by decide) (.slice Ak' ks'.length ck') ks' ⟨(⟨#[64]⟩ : ByteArray) ++ x.f0, x.f1, []⟩ [.string ((⟨#[64]⟩ : ByteArray) ++ x.f0), .string x.f1, .slice none 0 0] (fun k => k ≠ gv ∧ k ≠ gq) (fun _ => False) (by simp [Act.eval, Act.put]) (by simp [Act.eval, Act.put]) (k24_mkM _ _ _ (⟨(⟨#[64]⟩ : ByteArray) ++ x.f0, x.f1, []⟩ : S24) (Kd.R_nil k24 24 w3 W.heap.size _)) (fun k hk => hk.elim) (fun k hk => ⟨by omega, by omega⟩) HL3.out.kr (Below.refl _ _) (by have := HL3.out.ch.2.1; omega) (by omega) ?_)
      intro v5 w5 hA5 hb5 hg5 hat5
      obtain ⟨A5, c5, rfl⟩ := Kd.R_slice hA5
      have elen : (ks' ++ [(⟨(⟨#[64]⟩ : ByteArray) ++ x.f0, x.f1, []⟩ : S24)]).length = ks'.length + 1 := by simp
      rw [elen] at hA5
      have HEL := Lib.hid elen
      clear elen
      have HL4 := Lib.hid (HL3.out.row HLQ.out hg5 hA5)
      have HL5 := Lib.hid (HL4.out.setv HLQ.out 2 (.slice A5 (ks'.length + 1) c5) (vs' := #[.string ⟨#[]⟩, .string ⟨#[]⟩, .slice A5 (ks'.length + 1) c5]) rfl)
      have HL6 := Lib.hid (HL5.out.set HLQ.out (m' := M + 1) 3 (.int .i64 ((M : Int) + 1)) rfl)
      have v2 := crow 2 (Value.slice Ak' ks'.length ck') HL4.out.vb
      have fv2 := frozen_of_row _ _ 2 _ _ HL4.out.vb
      have s3 := crow 3 (Value.int .i64 (M : Int)) HL5.out.st
      have fs3 := frozen_of_row _ _ 3 _ _ HL5.out.st
      clear hA5 hb5 hg5 hat5
      go_wp2_with fail
      go_roundg (t.f3.length - j)
      case measure => have := HKQ.out; omega
      case rel => exact ⟨j + 1, sp', ks' ++ [⟨(⟨#[64]⟩ : ByteArray) ++ x.f0, x.f1, []⟩], Ao', A5, co', c5, rfl, by go_num, by omega, ⟨by omega⟩, ⟨by rw [HEL.out]; omega, by omega⟩, ⟨hat⟩, ⟨by rw [HEL.out, hM3]; exact HL6.out⟩⟩
     ·
      rw [if_pos n0] at hat
      have hR := HR.out
      rw [elemS_none _ _ _ _ _ _ _ _ hat.symm] at hR
      subst hR
      have y0 : decide ((0 : Int) < (colN x.f0.data.toList : Int)) = true := decide_eq_true (by omega)
      have y7 : decide (0 < colN x.f0.data.toList) = true := decide_eq_true (by omega)
      clear hat
      by_cases n1 : colN x.f0.data.toList = 1
      ·
       have y1 : ((colN x.f0.data.toList : Int) == 1) = true := by rw [n1]; rfl
       by_cases n2 : colA x.f0.data.toList = 5
       ·
        have y2 : (colA x.f0.data.toList == 5) = true := by rw [n2]; rfl
        have y8 : (5 : Int) ≤ (x.f0.size : Int) := by have := colA_five _ n1 n2; rw [Lib.size_eq]; omega
        have y9 : 5 ≤ x.f0.size := by omega
        by_cases n3 : x.f0.data.toList.take 5 = [120, 109, 108, 110, 115]
        ·
         as_aux_lemma =>
          have y3 : ((x.f0.extract 0 5).toList == [120, 109, 108, 110, 115]) = true := by rw [Lib.toList_data, ext_take5]; show (List.take 5 x.f0.data.toList == _) = true; rw [n3]; rfl
          have n4 : ¬ 6 < x.f0.size := fun h => q2 (by rw [n1, n2, n3]; simp; rw [Lib.size_eq] at h; simpa using h)
          have y4 : decide ((6 : Int) < (x.f0.size : Int)) = false := decide_eq_false (by omega)
          have y5 : decide (6 < x.f0.size) = false := decide_eq_false n4
          clear q2 n0 n1 n2 n3
          have q0 := crow 0 (Value.string ⟨#[]⟩) HL3.out.qb
          have q1 := crow 1 (Value.string ⟨#[]⟩) HL3.out.qb
          have q2 := crow 2 (Value.slice none 0 0) HL3.out.qb
          have g0 := frozen_of_row _ _ 0 _ _ HL3.out.qb
          have g1 := frozen_of_row _ _ 1 _ _ HL3.out.qb
          have g2 := frozen_of_row _ _ 2 _ _ HL3.out.qb
          have v0 := crow 0 (Value.string ⟨#[]⟩) HL3.out.vb
          have v1 := crow 1 (Value.string ⟨#[]⟩) HL3.out.vb
          have v2 := crow 2 (Value.slice Ak' ks'.length ck') HL3.out.vb
          have t5 := crow 5 (Value.int .i64 t.f5) HL3.out.tb
          have ngt : gt ≠ gq := by have := HLQ.out.ht; omega
          go_wp2_with fail
          go_region
          go_wp2_with fail
          refine bodyPost_ret (results76 (s3d HL3.out.qb _ _ _) _ rfl rfl rfl) rfl ?_
          exact HL3.out.bad HLQ.out (Int.ne_of_gt (by decide)) _ _ _ _ _ 1
        ·
         as_aux_lemma =>
          have y3 : ((x.f0.extract 0 5).toList == [120, 109, 108, 110, 115]) = false := by rw [Lib.toList_data, ext_take5]; show (List.take 5 x.f0.data.toList == _) = false; simpa using n3
          clear q2 n0 n1 n2 n3
          have q0 := crow 0 (Value.string ⟨#[]⟩) HL3.out.qb
          have q1 := crow 1 (Value.string ⟨#[]⟩) HL3.out.qb
          have q2 := crow 2 (Value.slice none 0 0) HL3.out.qb
          have g0 := frozen_of_row _ _ 0 _ _ HL3.out.qb
          have g1 := frozen_of_row _ _ 1 _ _ HL3.out.qb
          have g2 := frozen_of_row _ _ 2 _ _ HL3.out.qb
          have v0 := crow 0 (Value.string ⟨#[]⟩) HL3.out.vb
          have v1 := crow 1 (Value.string ⟨#[]⟩) HL3.out.vb
          have v2 := crow 2 (Value.slice Ak' ks'.length ck') HL3.out.vb
          have t5 := crow 5 (Value.int .i64 t.f5) HL3.out.tb
          have ngt : gt ≠ gq := by have := HLQ.out.ht; omega
          go_wp2_with fail
          go_region
          go_wp2_with fail
          refine bodyPost_ret (results76 (s3d HL3.out.qb _ _ _) _ rfl rfl rfl) rfl ?_
          exact HL3.out.bad HLQ.out (Int.ne_of_gt (by decide)) _ _ _ _ _ 1
       ·
        as_aux_lemma =>
         have y2 : (colA x.f0.data.toList == 5) = false := by simpa using n2
         clear q2 n0 n1 n2
         have q0 := crow 0 (Value.string ⟨#[]⟩) HL3.out.qb
         have q1 := crow 1 (Value.string ⟨#[]⟩) HL3.out.qb
         have q2 := crow 2 (Value.slice none 0 0) HL3.out.qb
         have g0 := frozen_of_row _ _ 0 _ _ HL3.out.qb
         have g1 := frozen_of_row _ _ 1 _ _ HL3.out.qb
         have g2 := frozen_of_row _ _ 2 _ _ HL3.out.qb
         have v0 := crow 0 (Value.string ⟨#[]⟩) HL3.out.vb
         have v1 := crow 1 (Value.string ⟨#[]⟩) HL3.out.vb
         have v2 := crow 2 (Value.slice Ak' ks'.length ck') HL3.out.vb
         have t5 := crow 5 (Value.int .i64 t.f5) HL3.out.tb
         have ngt : gt ≠ gq := by have := HLQ.out.ht; omega
         go_wp2_with fail
         go_region
         go_wp2_with fail
         refine bodyPost_ret (results76 (s3d HL3.out.qb _ _ _) _ rfl rfl rfl) rfl ?_
         exact HL3.out.bad HLQ.out (Int.ne_of_gt (by decide)) _ _ _ _ _ 1
      ·
       as_aux_lemma =>
        have y1 : ((colN x.f0.data.toList : Int) == 1) = false := by simp; omega
        clear q2 n0 n1
        have q0 := crow 0 (Value.string ⟨#[]⟩) HL3.out.qb
        have q1 := crow 1 (Value.string ⟨#[]⟩) HL3.out.qb
        have q2 := crow 2 (Value.slice none 0 0) HL3.out.qb
        have g0 := frozen_of_row _ _ 0 _ _ HL3.out.qb
        have g1 := frozen_of_row _ _ 1 _ _ HL3.out.qb
        have g2 := frozen_of_row _ _ 2 _ _ HL3.out.qb
        have v0 := crow 0 (Value.string ⟨#[]⟩) HL3.out.vb
        have v1 := crow 1 (Value.string ⟨#[]⟩) HL3.out.vb
        have v2 := crow 2 (Value.slice Ak' ks'.length ck') HL3.out.vb
        have t5 := crow 5 (Value.int .i64 t.f5) HL3.out.tb
        have ngt : gt ≠ gq := by have := HLQ.out.ht; omega
        go_wp2_with fail
        go_region
        go_wp2_with fail
        refine bodyPost_ret (results76 (s3d HL3.out.qb _ _ _) _ rfl rfl rfl) rfl ?_
        exact HL3.out.bad HLQ.out (Int.ne_of_gt (by decide)) _ _ _ _ _ 1
  ·
   have hje : j = t.f3.length := by omega
   have hatt : attsT t.f3 sp [] = some (sp', ks') := by rw [← HAT.out, hje, List.drop_length]; rfl
   have hR := HR.out
   rw [elemS_cons _ _ _ _ _ _ _ _ _ _ hatt] at hR
   have HR2 := Lib.hid hR
   have hle := HLE.out
   have b1 : decide ((j : Int) < (t.f3.length : Int)) = false := decide_eq_false (by omega)
   have b2 : decide (j < t.f3.length) = false := decide_eq_false (by omega)
   have t1 := crow 1 (Value.string t.f1) HL.out.tb
   have hnm := HOK.out.name
   clear hje hatt hR HR HAT
   go_wp2_with fail
   refine (colons_any t.f1 _ (by omega)).mono ?_
   rintro e w3 ⟨rfl, hdr⟩
   obtain ⟨nq, rfl⟩ := hdr
   have HL3 := Lib.hid (HL.out.below HLQ.out (pw_below_drewN (Below.refl _ _) nq))
   clear HL t1 t3
   generalize wr.drewN nq = w3 at HL3 ⊢
   have t1 := crow 1 (Value.string t.f1) HL3.out.tb
   dsimp only
   go_wp2_with fail
   go_quiet (fail)
   have HL4 := Lib.hid (HL3.out.below HLQ.out (pw_below_drewN (Below.refl w3.heap.size w3) nq))
   clear HL3 t1
   generalize w3.drewN nq = w4 at HL4 ⊢
   have t1 := crow 1 (Value.string t.f1) HL4.out.tb
   by_cases n1 : colN t.f1.data.toList = 1
   ·
    obtain ⟨p, hp, hpl, hpf, hlc⟩ := colA_nat5 _ n1
    rw [hp]
    have y1 : ((colN t.f1.data.toList : Int) == 1) = true := by rw [n1]; rfl
    have z0 : (0 : Int) ≤ (p : Int) := by omega
    have z1 : (p : Int) ≤ (t.f1.size : Int) := by rw [Lib.size_eq]; omega
    have z2 : (p : Int) + 1 ≤ (t.f1.size : Int) := by rw [Lib.size_eq]; omega
    have z3 : p + 1 ≤ t.f1.size := by rw [Lib.size_eq]; omega
    have z4 : p ≤ t.f1.size := by omega
    go_wp2_with fail
    have hR := HR2.out
    obtain ⟨PL, hPL⟩ : ∃ PL, prefD t.f1.data.toList = PL := ⟨_, rfl⟩
    obtain ⟨LL, hLL⟩ : ∃ LL, locD t.f1.data.toList = LL := ⟨_, rfl⟩
    obtain ⟨PX, hPX⟩ : ∃ PX : ByteArray, ⟨PL.toArray⟩ = PX := ⟨_, rfl⟩
    obtain ⟨LX, hLX⟩ : ∃ LX : ByteArray, ⟨LL.toArray⟩ = LX := ⟨_, rfl⟩
    have e18 : t.f1.extract 0 p = PX := by rw [ext_take5, ← hpf, hPL, hPX]
    have e19 : t.f1.extract (p + 1) t.f1.size = LX := by rw [ext_drop5, ← hlc, hLL, hLX]
    rw [e18, e19]
    have hbd : badD t.f1.data.toList = (PL.isEmpty || LL.isEmpty) := by unfold badD; rw [n1, hPL, hLL]; simp
    rw [hPL, hLL, hLX] at hR
    clear e18 e19 hpf hlc hp hPL hLL
    obtain ⟨IS, hIS⟩ : ∃ IS, ((spGet sp' PL).isSome || PL.isEmpty) = IS := ⟨_, rfl⟩
    obtain ⟨INN, hINN⟩ : ∃ INN, inT sp' PL = INN := ⟨_, rfl⟩
    rw [hbd, hIS, hINN] at hR
    have hlk : Calls Tryz.prog 119 #[.slice Ao' (spS sp').length co', .string PX] w4 (fun e w' => e = .returned (.tuple #[.string INN, .bool IS]) ∧ Drawn0 w4 w') := by
     have h := look_any sp' (by omega) Ao' co' PX w4 (Kd.R_reads' HL4.out.os).2.2 (Kd.R_reads' HL4.out.os).2.1
     rw [← hPX] at h ⊢
     rw [← hINN, ← hIS]
     exact h
    refine hlk.mono ?_
    rintro e w5 ⟨rfl, hdr⟩
    obtain ⟨nq3, rfl⟩ := hdr
    have HL5 := Lib.hid (HL4.out.below HLQ.out (pw_below_drewN (Below.refl _ _) nq3))
    have HRR := Lib.hid hR
    clear HL4 hR t1 hlk hINN hIS HR2
    generalize w4.drewN nq3 = w5 at HL5 ⊢
    dsimp only
    have hp1 : PX.toList = PL := by rw [← hPX, Lib.toList_data]
    have hl1 : LX.toList = LL := by rw [← hLX, Lib.toList_data]
    cases hP : PL.isEmpty with
    | true =>
     as_aux_lemma =>
      have hR := HRR.out
      rw [if_pos (.inl (by rw [hP]; rfl))] at hR
      subst hR
      have u1 : PX.toList = [] := by rw [hp1]; simpa using hP
      have u2 : PX.toList.isEmpty = true := by rw [u1]; rfl
      have u3 : (PX.toList == []) = true := by rw [u1]; rfl
      clear hp1 hl1 hP
      have q0 := crow 0 (Value.string ⟨#[]⟩) HL5.out.qb
      have q1 := crow 1 (Value.string ⟨#[]⟩) HL5.out.qb
      have q2 := crow 2 (Value.slice none 0 0) HL5.out.qb
      have g0 := frozen_of_row _ _ 0 _ _ HL5.out.qb
      have g1 := frozen_of_row _ _ 1 _ _ HL5.out.qb
      have g2 := frozen_of_row _ _ 2 _ _ HL5.out.qb
      have v0 := crow 0 (Value.string ⟨#[]⟩) HL5.out.vb
      have v1 := crow 1 (Value.string ⟨#[]⟩) HL5.out.vb
      have v2 := crow 2 (Value.slice Ak' ks'.length ck') HL5.out.vb
      have t5 := crow 5 (Value.int .i64 t.f5) HL5.out.tb
      have ngt : gt ≠ gq := by have := HLQ.out.ht; omega
      go_wp2_with fail
      go_region
      go_wp2_with fail
      refine bodyPost_ret (results76 (s3d HL5.out.qb _ _ _) _ rfl rfl rfl) rfl ?_
      exact HL5.out.bad HLQ.out (Int.ne_of_gt (by decide)) _ _ _ _ _ 1
    | false =>
     have u2 : PX.toList.isEmpty = false := by rw [hp1]; exact hP
     have u1 : ¬ PX.toList = [] := by intro h; rw [h] at u2; cases u2
     have u3 : (PX.toList == []) = false := by simpa using u1
     cases hQ : LL.isEmpty with
     | true =>
      as_aux_lemma =>
       have hR := HRR.out
       rw [if_pos (.inl (by rw [hP, hQ]; rfl))] at hR
       subst hR
       have m1 : LX.toList = [] := by rw [hl1]; simpa using hQ
       have m2 : LX.toList.isEmpty = true := by rw [m1]; rfl
       have m3 : (LX.toList == []) = true := by rw [m1]; rfl
       clear hp1 hl1 hP hQ
       have q0 := crow 0 (Value.string ⟨#[]⟩) HL5.out.qb
       have q1 := crow 1 (Value.string ⟨#[]⟩) HL5.out.qb
       have q2 := crow 2 (Value.slice none 0 0) HL5.out.qb
       have g0 := frozen_of_row _ _ 0 _ _ HL5.out.qb
       have g1 := frozen_of_row _ _ 1 _ _ HL5.out.qb
       have g2 := frozen_of_row _ _ 2 _ _ HL5.out.qb
       have v0 := crow 0 (Value.string ⟨#[]⟩) HL5.out.vb
       have v1 := crow 1 (Value.string ⟨#[]⟩) HL5.out.vb
       have v2 := crow 2 (Value.slice Ak' ks'.length ck') HL5.out.vb
       have t5 := crow 5 (Value.int .i64 t.f5) HL5.out.tb
       have ngt : gt ≠ gq := by have := HLQ.out.ht; omega
       go_wp2_with fail
       go_region
       go_wp2_with fail
       refine bodyPost_ret (results76 (s3d HL5.out.qb _ _ _) _ rfl rfl rfl) rfl ?_
       exact HL5.out.bad HLQ.out (Int.ne_of_gt (by decide)) _ _ _ _ _ 1
     | false =>
      have m2 : LX.toList.isEmpty = false := by rw [hl1]; exact hQ
      have m1 : ¬ LX.toList = [] := by intro h; rw [h] at m2; cases m2
      have m3 : (LX.toList == []) = false := by simpa using m1
      cases IS with
      | false =>
       as_aux_lemma =>
        have hR := HRR.out
        rw [if_pos (.inr rfl)] at hR
        subst hR
        clear hp1 hl1 hP hQ
        have q0 := crow 0 (Value.string ⟨#[]⟩) HL5.out.qb
        have q1 := crow 1 (Value.string ⟨#[]⟩) HL5.out.qb
        have q2 := crow 2 (Value.slice none 0 0) HL5.out.qb
        have g0 := frozen_of_row _ _ 0 _ _ HL5.out.qb
        have g1 := frozen_of_row _ _ 1 _ _ HL5.out.qb
        have g2 := frozen_of_row _ _ 2 _ _ HL5.out.qb
        have v0 := crow 0 (Value.string ⟨#[]⟩) HL5.out.vb
        have v1 := crow 1 (Value.string ⟨#[]⟩) HL5.out.vb
        have v2 := crow 2 (Value.slice Ak' ks'.length ck') HL5.out.vb
        have t5 := crow 5 (Value.int .i64 t.f5) HL5.out.tb
        have ngt : gt ≠ gq := by have := HLQ.out.ht; omega
        go_wp2_with fail
        go_region
        go_wp2_with fail
        refine bodyPost_ret (results76 (s3d HL5.out.qb _ _ _) _ rfl rfl rfl) rfl ?_
        exact HL5.out.bad HLQ.out (Int.ne_of_gt (by decide)) _ _ _ _ _ 1
      | true =>
       as_aux_lemma =>
        have hR := HRR.out
        rw [if_neg (by rw [hP, hQ]; rintro (h | h) <;> cases h)] at hR
        clear hp1 hl1 hP hQ HRR
        have hcall := IH.out W w5 gq #[.string ⟨#[]⟩, .string ⟨#[]⟩, .slice none 0 0] (fun k => k ≠ gv ∧ k ≠ gq) (.slice Ak' ks'.length ck') (.slice Ao' (spS sp').length co') ks' t A3 c3 LX INN space sp' deep (i + 1) (m + ks'.length) f r HL5.out.ch hgW HL5.out.low HL5.out.st HD1.out (by omega) hkr hfr HL5.out.kr HL5.out.os HL5.out.qb (by have := HLQ.out.hq; omega) (fun k hk => hk.2) hdp (by omega) (by omega) (by omega)
        obtain ⟨RR, hRR⟩ : ∃ RR, restS (n : Int) f ks' t LX INN sp' deep (m + ks'.length) space r = RR := ⟨_, rfl⟩
        obtain ⟨S2, hS2⟩ : ∃ S2, (if deep = 0 then INN else space) = S2 := ⟨_, rfl⟩
        rw [hRR, hS2] at hcall
        rw [hRR, hS2] at hR
        clear hS2
        have HCALL := Lib.hid hcall
        have v0 := crow 0 (Value.string ⟨#[]⟩) HL5.out.vb
        have v1 := crow 1 (Value.string ⟨#[]⟩) HL5.out.vb
        have v2 := crow 2 (Value.slice Ak' ks'.length ck') HL5.out.vb
        have t0 := crow 0 (Value.int .u8 t.f0) HL5.out.tb
        have t1 := crow 1 (Value.string t.f1) HL5.out.tb
        have t2 := crow 2 (Value.string t.f2) HL5.out.tb
        have t3 := crow 3 (Value.slice A3 t.f3.length c3) HL5.out.tb
        have t4 := crow 4 (Value.bool t.f4) HL5.out.tb
        have t5 := crow 5 (Value.int .i64 t.f5) HL5.out.tb
        have HRQ := Lib.hid hR
        clear hcall hRR hR
        go_wp2_with fail
        refine HCALL.out.mono ?_
        rintro e w8 ⟨hch, hq8, hr⟩
        have q0 := crow 0 (Value.string ⟨#[]⟩) hq8
        have q1 := crow 1 (Value.string ⟨#[]⟩) hq8
        have q2 := crow 2 (Value.slice none 0 0) hq8
        have g0 := frozen_of_row _ _ 0 _ _ hq8
        have g1 := frozen_of_row _ _ 1 _ _ hq8
        have g2 := frozen_of_row _ _ 2 _ _ hq8
        have HCH := Lib.hid hch
        have hgw2 : W.heap.size ≤ gq := HLQ.out.hq
        clear hch t0 t1 t2 t3 t4 t5 v0 v1 v2 HCALL
        cases RR with
        | error z =>
         obtain ⟨a, er⟩ := z
         obtain ⟨hne0, x0, x1, xa, xn, xc, rfl⟩ := hr
         have hR := HRQ.out
         simp only at hR
         subst hR
         have HNE := Lib.hid hne0
         clear hne0
         dsimp only
         go_wp2_with fail
         refine bodyPost_ret (results76 (s3 hq8 _ _ _) _ rfl rfl rfl) rfl ?_
         exact ⟨ch_far3 HCH.out hgW hgw2 _ _ _, HNE.out, x0, x1, xa, xn, xc, rfl⟩
        | ok z =>
         obtain ⟨v, m3, toks3⟩ := z
         obtain ⟨kv, i3, rfl, hR8, hS8, hd3, hi3⟩ := hr
         obtain ⟨Akk, ckk, rfl⟩ := Kd.R_slice hR8
         have hR := HRQ.out
         simp only at hR
         subst hR
         have HR8 := Lib.hid hR8
         have HS8 := Lib.hid hS8
         have HD3 := Lib.hid hd3
         clear hR8 hS8 hd3
         dsimp only
         go_wp2_with fail
         refine bodyPost_ret (results76 (s3 hq8 _ _ _) _ rfl rfl rfl) rfl ?_
         have hgg2 : g ≠ gq := by omega
         exact ⟨ch_far3 HCH.out hgW hgw2 _ _ _, _, i3, rfl, Kd.R_mono (R_far3 HR8.out (fun k hk _ _ => hk) _ _ _) (fun _ _ => trivial), (Below.heap_setCell _ ⟨gq, 2, none⟩ _ g hgg2).trans ((Below.heap_setCell _ ⟨gq, 1, none⟩ _ g hgg2).trans ((Below.heap_setCell _ ⟨gq, 0, none⟩ _ g hgg2).trans HS8.out)), HD3.out, hi3⟩
   ·
    have y1 : ((colN t.f1.data.toList : Int) == 1) = false := by simp; omega
    go_wp2_with fail
    have hR := HR2.out
    have hPL : prefD t.f1.data.toList = [] := by unfold prefD; rw [if_neg n1]
    have hLL : locD t.f1.data.toList = t.f1.data.toList := by unfold locD; rw [if_neg n1]
    have hLX : (⟨t.f1.data.toList.toArray⟩ : ByteArray) = t.f1 := rfl
    have hbd : badD t.f1.data.toList = decide (1 < colN t.f1.data.toList) := by unfold badD; simp [n1]
    rw [hPL, hLL, hLX] at hR
    clear hPL hLL hLX
    obtain ⟨IS, hIS⟩ : ∃ IS, ((spGet sp' ([] : List UInt8)).isSome || ([] : List UInt8).isEmpty) = IS := ⟨_, rfl⟩
    obtain ⟨INN, hINN⟩ : ∃ INN, inT sp' ([] : List UInt8) = INN := ⟨_, rfl⟩
    rw [hbd, hIS, hINN] at hR
    have hlk : Calls Tryz.prog 119 #[.slice Ao' (spS sp').length co', .string ⟨#[]⟩] w4 (fun e w' => e = .returned (.tuple #[.string INN, .bool IS]) ∧ Drawn0 w4 w') := by
     have h := look_any sp' (by omega) Ao' co' ⟨#[]⟩ w4 (Kd.R_reads' HL4.out.os).2.2 (Kd.R_reads' HL4.out.os).2.1
     rw [← hINN, ← hIS]
     exact h
    refine hlk.mono ?_
    rintro e w5 ⟨rfl, hdr⟩
    obtain ⟨nq3, rfl⟩ := hdr
    have HL5 := Lib.hid (HL4.out.below HLQ.out (pw_below_drewN (Below.refl _ _) nq3))
    have HRR := Lib.hid hR
    clear HL4 hR t1 hlk hINN hIS HR2
    generalize w4.drewN nq3 = w5 at HL5 ⊢
    dsimp only
    by_cases n2 : 1 < colN t.f1.data.toList
    ·
     as_aux_lemma =>
      have hR := HRR.out
      rw [if_pos (.inl (decide_eq_true n2))] at hR
      subst hR
      have u1 : decide ((1 : Int) < (colN t.f1.data.toList : Int)) = true := decide_eq_true (by omega)
      have u2 : decide (1 < colN t.f1.data.toList) = true := decide_eq_true n2
      have q0 := crow 0 (Value.string ⟨#[]⟩) HL5.out.qb
      have q1 := crow 1 (Value.string ⟨#[]⟩) HL5.out.qb
      have q2 := crow 2 (Value.slice none 0 0) HL5.out.qb
      have g0 := frozen_of_row _ _ 0 _ _ HL5.out.qb
      have g1 := frozen_of_row _ _ 1 _ _ HL5.out.qb
      have g2 := frozen_of_row _ _ 2 _ _ HL5.out.qb
      have v0 := crow 0 (Value.string ⟨#[]⟩) HL5.out.vb
      have v1 := crow 1 (Value.string ⟨#[]⟩) HL5.out.vb
      have v2 := crow 2 (Value.slice Ak' ks'.length ck') HL5.out.vb
      have t5 := crow 5 (Value.int .i64 t.f5) HL5.out.tb
      have ngt : gt ≠ gq := by have := HLQ.out.ht; omega
      go_wp2_with fail
      go_region
      go_wp2_with fail
      refine bodyPost_ret (results76 (s3d HL5.out.qb _ _ _) _ rfl rfl rfl) rfl ?_
      exact HL5.out.bad HLQ.out (Int.ne_of_gt (by decide)) _ _ _ _ _ 1
    ·
     have u1 : decide ((1 : Int) < (colN t.f1.data.toList : Int)) = false := decide_eq_false (by omega)
     have u2 : decide (1 < colN t.f1.data.toList) = false := decide_eq_false n2
     cases IS with
     | false =>
      as_aux_lemma =>
       have hR := HRR.out
       rw [if_pos (.inr rfl)] at hR
       subst hR
       have q0 := crow 0 (Value.string ⟨#[]⟩) HL5.out.qb
       have q1 := crow 1 (Value.string ⟨#[]⟩) HL5.out.qb
       have q2 := crow 2 (Value.slice none 0 0) HL5.out.qb
       have g0 := frozen_of_row _ _ 0 _ _ HL5.out.qb
       have g1 := frozen_of_row _ _ 1 _ _ HL5.out.qb
       have g2 := frozen_of_row _ _ 2 _ _ HL5.out.qb
       have v0 := crow 0 (Value.string ⟨#[]⟩) HL5.out.vb
       have v1 := crow 1 (Value.string ⟨#[]⟩) HL5.out.vb
       have v2 := crow 2 (Value.slice Ak' ks'.length ck') HL5.out.vb
       have t5 := crow 5 (Value.int .i64 t.f5) HL5.out.tb
       have ngt : gt ≠ gq := by have := HLQ.out.ht; omega
       go_wp2_with fail
       go_region
       go_wp2_with fail
       refine bodyPost_ret (results76 (s3d HL5.out.qb _ _ _) _ rfl rfl rfl) rfl ?_
       exact HL5.out.bad HLQ.out (Int.ne_of_gt (by decide)) _ _ _ _ _ 1
     | true =>
      as_aux_lemma =>
       have hR := HRR.out
       rw [if_neg (by rw [u2]; rintro (h | h) <;> cases h)] at hR
       clear HRR
       have hcall := IH.out W w5 gq #[.string ⟨#[]⟩, .string ⟨#[]⟩, .slice none 0 0] (fun k => k ≠ gv ∧ k ≠ gq) (.slice Ak' ks'.length ck') (.slice Ao' (spS sp').length co') ks' t A3 c3 t.f1 INN space sp' deep (i + 1) (m + ks'.length) f r HL5.out.ch hgW HL5.out.low HL5.out.st HD1.out (by omega) hkr hfr HL5.out.kr HL5.out.os HL5.out.qb (by have := HLQ.out.hq; omega) (fun k hk => hk.2) hdp (by omega) (by omega) (by omega)
       obtain ⟨RR, hRR⟩ : ∃ RR, restS (n : Int) f ks' t t.f1 INN sp' deep (m + ks'.length) space r = RR := ⟨_, rfl⟩
       obtain ⟨S2, hS2⟩ : ∃ S2, (if deep = 0 then INN else space) = S2 := ⟨_, rfl⟩
       rw [hRR, hS2] at hcall
       rw [hRR, hS2] at hR
       clear hS2
       have HCALL := Lib.hid hcall
       have v0 := crow 0 (Value.string ⟨#[]⟩) HL5.out.vb
       have v1 := crow 1 (Value.string ⟨#[]⟩) HL5.out.vb
       have v2 := crow 2 (Value.slice Ak' ks'.length ck') HL5.out.vb
       have t0 := crow 0 (Value.int .u8 t.f0) HL5.out.tb
       have t1 := crow 1 (Value.string t.f1) HL5.out.tb
       have t2 := crow 2 (Value.string t.f2) HL5.out.tb
       have t3 := crow 3 (Value.slice A3 t.f3.length c3) HL5.out.tb
       have t4 := crow 4 (Value.bool t.f4) HL5.out.tb
       have t5 := crow 5 (Value.int .i64 t.f5) HL5.out.tb
       have HRQ := Lib.hid hR
       clear hcall hRR hR
       go_wp2_with fail
       refine HCALL.out.mono ?_
       rintro e w8 ⟨hch, hq8, hr⟩
       have q0 := crow 0 (Value.string ⟨#[]⟩) hq8
       have q1 := crow 1 (Value.string ⟨#[]⟩) hq8
       have q2 := crow 2 (Value.slice none 0 0) hq8
       have g0 := frozen_of_row _ _ 0 _ _ hq8
       have g1 := frozen_of_row _ _ 1 _ _ hq8
       have g2 := frozen_of_row _ _ 2 _ _ hq8
       have HCH := Lib.hid hch
       have hgw2 : W.heap.size ≤ gq := HLQ.out.hq
       clear hch t0 t1 t2 t3 t4 t5 v0 v1 v2 HCALL
       cases RR with
       | error z =>
        obtain ⟨a, er⟩ := z
        obtain ⟨hne0, x0, x1, xa, xn, xc, rfl⟩ := hr
        have hR := HRQ.out
        simp only at hR
        subst hR
        have HNE := Lib.hid hne0
        clear hne0
        dsimp only
        go_wp2_with fail
        refine bodyPost_ret (results76 (s3 hq8 _ _ _) _ rfl rfl rfl) rfl ?_
        exact ⟨ch_far3 HCH.out hgW hgw2 _ _ _, HNE.out, x0, x1, xa, xn, xc, rfl⟩
       | ok z =>
        obtain ⟨v, m3, toks3⟩ := z
        obtain ⟨kv, i3, rfl, hR8, hS8, hd3, hi3⟩ := hr
        obtain ⟨Akk, ckk, rfl⟩ := Kd.R_slice hR8
        have hR := HRQ.out
        simp only at hR
        subst hR
        have HR8 := Lib.hid hR8
        have HS8 := Lib.hid hS8
        have HD3 := Lib.hid hd3
        clear hR8 hS8 hd3
        dsimp only
        go_wp2_with fail
        refine bodyPost_ret (results76 (s3 hq8 _ _ _) _ rfl rfl rfl) rfl ?_
        have hgg2 : g ≠ gq := by omega
        exact ⟨ch_far3 HCH.out hgW hgw2 _ _ _, _, i3, rfl, Kd.R_mono (R_far3 HR8.out (fun k hk _ _ => hk) _ _ _) (fun _ _ => trivial), (Below.heap_setCell _ ⟨gq, 2, none⟩ _ g hgg2).trans ((Below.heap_setCell _ ⟨gq, 1, none⟩ _ g hgg2).trans ((Below.heap_setCell _ ⟨gq, 0, none⟩ _ g hgg2).trans HS8.out)), HD3.out, hi3⟩
end Go.Proofs.YtknfpggiigncpaaGreatDoor.T
