/- The document's rest of an element, walked by hand. -/
import Derived.Test.YtknfpggiigncpaaGreatDoorUr2
set_option linter.unusedVariables false
set_option linter.unusedSimpArgs false
namespace Go.Proofs.YtknfpggiigncpaaGreatDoor.T
open Go.RowKit P E YtknfpggiigncpaaGreatDoorW.PrintLast YtknfpggiigncpaaGreatDoorW.PrintMore
open YtknfpggiigncpaaGreatDoorW.PrintWords
open C (Ch)
theorem headT_ok {sp : List (List UInt8 × List UInt8)} {deep many : Nat} {space inn : ByteArray} {t : C.S44} {nd : Nd} {m2 : Nat} (h : headT sp deep many space t = .ok (nd, m2, inn)) : m2 ≤ 20000 ∧ many < m2 ∧ (deep ≠ 0 → inn = space) := by
 unfold headT at h
 cases ha : attsT t.f3 sp [] with
 | none => rw [ha] at h; cases h
 | some q =>
  obtain ⟨sp', ks⟩ := q
  rw [ha] at h
  simp only at h
  generalize (⟨((spGet sp' (D.splitT t.f1.data.toList).1).getD []).toArray⟩ : ByteArray) = z at h
  by_cases c1 : (D.splitT t.f1.data.toList).2.2 = false ∨ ((spGet sp' (D.splitT t.f1.data.toList).1).isSome || (D.splitT t.f1.data.toList).1.isEmpty) = false
  ·
   rw [if_pos c1] at h; cases h
  rw [if_neg c1] at h
  by_cases c2 : z ≠ (if deep = 0 then z else space)
  ·
   rw [if_pos c2] at h; cases h
  rw [if_neg c2] at h
  by_cases c3 : deep = 64
  ·
   rw [if_pos c3] at h; cases h
  rw [if_neg c3] at h
  by_cases c4 : many + ks.length + 1 > 20000
  ·
   rw [if_pos c4] at h; cases h
  rw [if_neg c4] at h
  injection h with h
  injection h with h1 h2
  injection h2 with h2 h3
  refine ⟨by omega, by omega, fun hd => ?_⟩
  rw [← h3, if_neg hd]
theorem headT_err {sp : List (List UInt8 × List UInt8)} {deep many : Nat} {space : ByteArray} {t : C.S44} {e : Int} (h : headT sp deep many space t = .error e) : e ≠ 0 := by
 unfold headT at h
 cases ha : attsT t.f3 sp [] with
 | none => rw [ha] at h; cases h; decide
 | some q =>
  obtain ⟨sp', ks⟩ := q
  rw [ha] at h
  simp only at h
  repeat' (split at h)
  all_goals first | (cases h; decide) | cases h
def LF (toks : List C.S44) : Except (Int × Int) (S24 × Nat × List C.S44) → Prop
 | .error z => z.2 ≠ 0
 | .ok (_, m, l) => m ≤ 20000 ∧ l.length < toks.length
theorem LF.mono {toks toks' : List C.S44} {r : Except (Int × Int) (S24 × Nat × List C.S44)} (h : LF toks r) (hl : toks.length ≤ toks'.length) : LF toks' r := by
 cases r with
 | error z => exact h
 | ok q => obtain ⟨v, m, l⟩ := q; exact ⟨h.1, Nat.lt_of_lt_of_le h.2 hl⟩
theorem LF.bad {toks : List C.S44} {a : Int} : LF toks (.error (a, 23)) := (by decide : (23 : Int) ≠ 0)
theorem loopR_facts (n : Int) : ∀ (k : Nat) (nd : Nd) (deep many : Nat) (space : ByteArray) (toks : List C.S44), many ≤ 20000 → LF toks (loopR n k nd deep many space toks) := by
 intro k
 induction k with
 | zero => intro nd deep many space toks hm; exact LF.bad
 | succ k ih =>
  intro nd deep many space toks hm
  cases toks with
  | nil => exact LF.bad
  | cons x l =>
   have hl : l.length ≤ (x :: l).length := Nat.le_succ _
   rw [loopR]
   by_cases c3 : x.f0 = 3
   ·
    rw [if_pos c3]
    by_cases c : nd.hask = true ∧ blankL x.f2.data.toList = false
    ·
     rw [if_pos c]; exact LF.bad
    ·
     rw [if_neg c]; exact (ih _ deep many space l hm).mono hl
   rw [if_neg c3]
   by_cases c2 : x.f0 = 2
   ·
    rw [if_pos c2]
    by_cases c : x.f1 = nd.name
    ·
     rw [if_pos c]; exact ⟨hm, Nat.lt_succ_self _⟩
    ·
     rw [if_neg c]; exact LF.bad
   rw [if_neg c2]
   by_cases cs : blankL nd.said.data.toList = false
   ·
    rw [if_pos cs]; exact LF.bad
   rw [if_neg cs]
   cases hh : headT nd.sp (deep + 1) many space x with
   | error e => exact headT_err hh
   | ok q =>
    obtain ⟨nd2, m2, inn⟩ := q
    have h2 := headT_ok hh
    simp only
    by_cases c4 : x.f4 = true
    ·
     rw [if_pos c4]; exact (ih _ deep m2 space l h2.1).mono hl
    ·
     rw [if_neg c4]
     have h1 := ih nd2 (deep + 1) m2 space l h2.1
     cases hR : loopR n k nd2 (deep + 1) m2 space l with
     | error z => rw [hR] at h1; exact h1
     | ok q =>
      obtain ⟨v, m3, l3⟩ := q
      rw [hR] at h1
      exact (ih _ deep m3 space l3 h1.1).mono (by have := h1.2; simp only [List.length_cons]; omega)
theorem elemS_facts {n : Int} {f : Nat} {sp : List (List UInt8 × List UInt8)} {deep many : Nat} {space : ByteArray} {toks : List C.S44} {v : S24} {m : Nat} {inn : ByteArray} {l : List C.S44} (h : elemS n f sp deep many space toks = .ok (v, m, inn, l)) : m ≤ 20000 ∧ l.length < toks.length ∧ (deep ≠ 0 → inn = space) := by
 cases toks with
 | nil => cases h
 | cons t r =>
  rw [elemS] at h
  cases hh : headT sp deep many space t with
  | error e => rw [hh] at h; cases h
  | ok q =>
   obtain ⟨nd, m2, inn2⟩ := q
   have h2 := headT_ok hh
   rw [hh] at h
   simp only at h
   split at h
   ·
    injection h with h
    injection h with _ h
    injection h with h3 h
    injection h with h4 h5
    subst h3 h4 h5
    exact ⟨h2.1, Nat.lt_succ_self _, h2.2.2⟩
   ·
    have h1 := loopR_facts n f nd deep m2 inn2 r h2.1
    cases hR : loopR n f nd deep m2 inn2 r with
    | error z => rw [hR] at h; cases h
    | ok q =>
     obtain ⟨v', m', l4⟩ := q
     rw [hR] at h h1
     simp only at h h1
     injection h with h
     injection h with _ h
     injection h with h3 h
     injection h with h4 h5
     subst h3 h4 h5
     exact ⟨h1.1, Nat.lt_succ_of_lt h1.2, h2.2.2⟩
theorem loop_kid (n : Int) (f : Nat) (nd : Nd) (deep many : Nat) (space : ByteArray) (x : C.S44) (l : List C.S44) (h3 : x.f0 ≠ 3) (h2 : x.f0 ≠ 2) :
  loopR n (f + 1) nd deep many space (x :: l) = (match kidS n f nd.sp (deep + 1) many space nd.said (x :: l) with
   | .error z => .error z
   | .ok (v, m3, _, l') => loopR n f { nd with ks := nd.ks ++ [v], hask := true } deep m3 space l') := by
 rw [loopR, if_neg h3, if_neg h2]
 unfold kidS
 cases hb : blankL nd.said.data.toList with
 | false => rfl
 | true =>
  rw [if_neg (by decide), if_pos rfl, elemS]
  cases hh : headT nd.sp (deep + 1) many space x with
  | error e => rfl
  | ok q =>
   obtain ⟨nd2, m2, inn⟩ := q
   have := (headT_ok hh).2.2 (by omega)
   subst this
   simp only
   split
   ·
    rfl
   ·
    cases hR : loopR n f nd2 (deep + 1) m2 inn l with
    | error z => rfl
    | ok q => rfl
structure Lp (wt w1 W : World) (g : Nat) (A : Option Addr) (c : Nat) (l44 : List C.S44) (n gr : Nat) (cs : Array Value) (gv gt gq : Nat) (tc : Array Value) (vs : Array Value) (kv ov : Value) (ks : List S24) (sp : List (List UInt8 × List UInt8)) (i m : Nat) (space : ByteArray) : Prop where
 st : Sst g A c (l44.map C.tr44) i n m space W
 low : Below wt.heap.size wt W
 ch : Ch g w1 W
 vb : W.heap[gv]? = some (.cells vs 24 (0, 0))
 tb : W.heap[gt]? = some (.cells tc 88 (0, 0))
 qb : W.heap[gq]? = some (.cells #[.string ⟨#[]⟩, .string ⟨#[]⟩, .slice none 0 0] 24 (0, 0))
 rb : W.heap[gr]? = some (.cells cs 24 (0, 0))
 kr : k24.R 24 W w1.heap.size (fun k => k ≠ gr ∧ k ≠ gv ∧ k ≠ gq) kv ks
 os : F.k174.R 174 W w1.heap.size (fun _ => True) ov (spS sp)
structure Lo (wt w1 : World) (g gr gv gt gq : Nat) : Prop where
 hwt : wt.heap.size ≤ g
 hg : g < w1.heap.size
 hr : w1.heap.size ≤ gr
 hv : gr < gv
 ht : gv < gt
 hq : gt < gq
section
variable {wt w1 W : World} {g : Nat} {A : Option Addr} {c : Nat} {l44 : List C.S44} {n gr : Nat} {cs : Array Value} {gv gt gq : Nat} {tc vs : Array Value} {kv ov : Value} {ks : List S24} {sp : List (List UInt8 × List UInt8)} {i m : Nat} {space : ByteArray}
theorem Lp.keep (h : Lp wt w1 W g A c l44 n gr cs gv gt gq tc vs kv ov ks sp i m space) (o : Lo wt w1 g gr gv gt gq) {W' : World} (hk : Ch g W W') {i' m' : Nat} {space' : ByteArray} (hs : Sst g A c (l44.map C.tr44) i' n m' space' W') : Lp wt w1 W' g A c l44 n gr cs gv gt gq tc vs kv ov ks sp i' m' space' := by
 have o1 := o.hwt
 have o2 := o.hg
 have o3 := o.hr
 have o4 := o.hv
 have o5 := o.ht
 have o6 := o.hq
 have hb : ∀ (p : Nat) (x : Obj), p ≠ g → W.heap[p]? = some x → W'.heap[p]? = some x := fun p x hp hx => (hk.2.2 p (Array.getElem?_eq_some_iff.1 hx).1 hp (by simp)).trans hx
 exact ⟨hs, h.low.trans (hk.1.mono o1), h.ch.trans hk, hb _ _ (by omega) h.vb, hb _ _ (by omega) h.tb, hb _ _ (by omega) h.qb, hb _ _ (by omega) h.rb,
  Kd.R_mono (Kd.R_keep (Kd.R_bound h.kr) hk.2 (fun k hk => by have := hk.2.1; omega)) (fun k hk => hk.1), Kd.R_mono (Kd.R_keep (Kd.R_bound h.os) hk.2 (fun k hk => by have := hk.2.1; omega)) (fun k hk => hk.1)⟩
theorem Lp.below (h : Lp wt w1 W g A c l44 n gr cs gv gt gq tc vs kv ov ks sp i m space) (o : Lo wt w1 g gr gv gt gq) {W' : World} (hb : Below W.heap.size W W') : Lp wt w1 W' g A c l44 n gr cs gv gt gq tc vs kv ov ks sp i m space := by
 have hgW : g < W.heap.size := (Array.getElem?_eq_some_iff.1 h.st).1
 exact h.keep o (Ch.of_below hb (by omega)) ((hb.block g hgW).trans h.st)
theorem Lp.set (h : Lp wt w1 W g A c l44 n gr cs gv gt gq tc vs kv ov ks sp i m space) (o : Lo wt w1 g gr gv gt gq) (j : Nat) (u : Value) {i' m' : Nat} {space' : ByteArray}
  (hu : (#[.slice A (l44.map C.tr44).length c, .int .i64 (i : Int), .int .i64 (n : Int), .int .i64 (m : Int), .string space] : Array Value).setIfInBounds j u = #[.slice A (l44.map C.tr44).length c, .int .i64 (i' : Int), .int .i64 (n : Int), .int .i64 (m' : Int), .string space']) :
  Lp wt w1 (W.setCell ⟨g, j, none⟩ u) g A c l44 n gr cs gv gt gq tc vs kv ov ks sp i' m' space' :=
 h.keep o ((Ch.refl g W).set j u) ((blk_set h.st j u).trans (by rw [hu]))
theorem Lp.setv (h : Lp wt w1 W g A c l44 n gr cs gv gt gq tc vs kv ov ks sp i m space) (o : Lo wt w1 g gr gv gt gq) (j : Nat) (u : Value) {vs' : Array Value} (hu : vs.setIfInBounds j u = vs') :
  Lp wt w1 (W.setCell ⟨gv, j, none⟩ u) g A c l44 n gr cs gv gt gq tc vs' kv ov ks sp i m space := by
 have o1 := o.hwt
 have o2 := o.hg
 have o3 := o.hr
 have o4 := o.hv
 have o5 := o.ht
 have o6 := o.hq
 have hb : ∀ (p : Nat) (x : Obj), p ≠ gv → W.heap[p]? = some x → (W.setCell ⟨gv, j, none⟩ u).heap[p]? = some x := fun p x hp hx => (Below.heap_setCell W ⟨gv, j, none⟩ u p hp).trans hx
 exact ⟨hb _ _ (by omega) h.st, h.low.setCell (p := ⟨gv, j, none⟩) (by show wt.heap.size ≤ gv; omega) u, ch_far h.ch o2 (by omega) j u, (blk_set h.vb j u).trans (by rw [hu]), hb _ _ (by omega) h.tb, hb _ _ (by omega) h.qb, hb _ _ (by omega) h.rb,
  Kd.R_far h.kr (p := ⟨gv, j, none⟩) (fun k hk => hk.2.1) u, Kd.R_mono (Kd.R_step (Kd.R_types h.os h.vb (fun q hq => by
   have : q = 174 := by
    have hE : (174 :: F.k174.E) = [174] := rfl
    rw [hE] at hq
    simpa using hq
   rw [this]; decide)) (fun k hk _ => Below.heap_setCell W ⟨gv, j, none⟩ u k hk.2)) (fun k hk => hk.1)⟩
theorem Lp.row (h : Lp wt w1 W g A c l44 n gr cs gv gt gq tc vs kv ov ks sp i m space) (o : Lo wt w1 g gr gv gt gq) {W' : World} (hg : W.grownBy W' kv.ownBlock) {kv' : Value} {ks' : List S24} (hR : k24.R 24 W' w1.heap.size (fun k => k ≠ gr ∧ k ≠ gv ∧ k ≠ gq) kv' ks') : Lp wt w1 W' g A c l44 n gr cs gv gt gq tc vs kv' ov ks' sp i m space := by
 have o1 := o.hwt
 have o2 := o.hg
 have o3 := o.hr
 have o4 := o.hv
 have o5 := o.ht
 have o6 := o.hq
 have hbs := Kd.R_base h.kr
 have hok := h.kr.1
 have hb : ∀ (p : Nat) (x : Obj), some p ≠ kv.ownBlock → W.heap[p]? = some x → W'.heap[p]? = some x := fun p x hp hx => (hg.block p (Array.getElem?_eq_some_iff.1 hx).1 hp).trans hx
 have hne : ∀ p, p < w1.heap.size → some p ≠ kv.ownBlock := fun p hp e => by have := hbs p e.symm; omega
 have hgt : some gt ≠ kv.ownBlock := fun e => by
  obtain ⟨inner, ho⟩ := Kd.R_own h.kr
  obtain ⟨cells, hc⟩ := own_cells ho gt e.symm
  rw [h.tb] at hc
  injection hc with hc
  injection hc with _ hc
  cases hc
 refine ⟨hb _ _ (hne g o2) h.st, h.low.trans ⟨hg.os, hg.tape, hg.output, hg.size, fun k hk => hg.block k (Nat.lt_of_lt_of_le hk h.low.size) (hne k (by omega))⟩, ch_grown h.ch hg o2 hbs, hb _ _ (fun e => (hok gv e.symm).2.1 rfl) h.vb, hb _ _ hgt h.tb, hb _ _ (fun e => (hok gq e.symm).2.2 rfl) h.qb, hb _ _ (fun e => (hok gr e.symm).1 rfl) h.rb, hR, ?_⟩
 cases hs : kv.ownBlock with
 | none => rw [hs] at hg; exact Kd.R_grown h.os hg (fun _ _ => by simp)
 | some r =>
  obtain ⟨inner, ho⟩ := Kd.R_own h.kr
  obtain ⟨cells, hc⟩ := own_cells ho r hs
  rw [hs] at hg
  exact Kd.R_mono (Kd.R_step (Kd.R_types h.os hc (fun q hq => by
   have : q = 174 := by
    have hE : (174 :: F.k174.E) = [174] := rfl
    rw [hE] at hq
    simpa using hq
   rw [this]; decide)) (fun k hk hl => hg.block k hl (fun e => hk.2 (Option.some.inj e)))) (fun k hk => hk.1)
end
end Go.Proofs.YtknfpggiigncpaaGreatDoor.T
