/- The document's rest of an element, walked by hand: the walk. -/
import Derived.Test.YtknfpggiigncpaaGreatDoorUr3
import Derived.Test.YtknfpggiigncpaaGreatDoorTr6
set_option linter.unusedVariables false
set_option linter.unusedSimpArgs false
namespace Go.Proofs.YtknfpggiigncpaaGreatDoor.T
open Go.RowKit P E YtknfpggiigncpaaGreatDoorW.PrintLast YtknfpggiigncpaaGreatDoorW.PrintMore
open YtknfpggiigncpaaGreatDoorW.PrintWords
open C (Ch)
theorem results120 {g : Nat} {x0 x1 x2 at_ er : Value} {W : World} (h : W.heap[g]? = some (.cells #[x0, x1, x2] 24 (0, 0))) (tmps : Array Value) (h3 : tmps.getD 14 undef = .pointer (some ⟨g, 0, none⟩)) (h4 : tmps.getD 15 undef = at_) (h5 : tmps.getD 16 undef = er) :
  (results Tryz.f120 tmps).run Tryz.prog W = .ok (.tuple #[.agg #[x0, x1, x2], at_, er]) W := by
 have k0 := crow 0 x0 h
 have k1 := crow 1 x1 h
 have k2 := crow 2 x2 h
 rw [Array.getD_eq_getD_getElem?] at h3 h4 h5
 simp [results, Tryz.results120, go_sem, h3, h4, h5, k0, k1, k2]
def RestAt (wt : World) (g : Nat) (A : Option Addr) (c : Nat) (l44 : List C.S44) (n : Nat) (k : Nat) : Prop :=
 ∀ (w1 W : World) (gr : Nat) (cs : Array Value) (okk : Nat → Prop) (kv ov : Value) (ks : List S24) (t : C.S44) (A3 : Option Addr) (c3 : Nat) (loc inn space : ByteArray) (sp : List (List UInt8 × List UInt8)) (deep i m f : Nat) (toks : List C.S44),
  Ch g w1 W → g < w1.heap.size → Below wt.heap.size wt W → Sst g A c (l44.map C.tr44) i n m space W → l44.drop i = toks → i ≤ l44.length → toks.length ≤ k → toks.length ≤ f → k24.R 24 W w1.heap.size okk kv ks → F.k174.R 174 W w1.heap.size (fun _ => True) ov (spS sp) →
  W.heap[gr]? = some (.cells cs 24 (0, 0)) → w1.heap.size ≤ gr → (∀ k, okk k → k ≠ gr) → deep ≤ 64 → m ≤ 20020 → sp.length ≤ 20 * (deep + 1) → ks.length ≤ 20 →
  Calls Tryz.prog 120 #[.pointer (some ⟨g, 0, none⟩), .agg #[.string ⟨#[]⟩, .string ⟨#[]⟩, kv], .agg #[.int .u8 t.f0, .string t.f1, .string t.f2, .slice A3 t.f3.length c3, .bool t.f4, .int .i64 t.f5], .string loc, .string inn, ov, .int .i64 (deep : Int)] W
   (RRes g A c l44 n (if deep = 0 then inn else space) w1 gr cs (restS (n : Int) f ks t loc inn sp deep m space toks))
section
variable {wt w1 W : World} {g : Nat} {A : Option Addr} {c : Nat} {l44 : List C.S44} {n gr : Nat} {cs : Array Value} {gv gt gq : Nat} {tc vs : Array Value} {kv ov : Value} {ks : List S24} {sp : List (List UInt8 × List UInt8)} {i m : Nat} {space : ByteArray}
theorem bad0 {inn : ByteArray} (hch : Ch g w1 W) (hrb : W.heap[gr]? = some (.cells cs 24 (0, 0))) (o : Lo wt w1 g gr gv gt gq) {a er : Int} (he : er ≠ 0) (x0 x1 : ByteArray) (xa : Option Addr) (xn xc : Nat) (q : Nat) :
  RRes g A c l44 n inn w1 gr cs (.error (a, er)) (.returned (.tuple #[.agg #[.string x0, .string x1, .slice xa xn xc], .int .i64 a, .int .i64 er])) ((((W.setCell ⟨gq, 0, none⟩ (.string x0)).setCell ⟨gq, 1, none⟩ (.string x1)).setCell ⟨gq, 2, none⟩ (.slice xa xn xc)).drewN q) := by
 have o1 := o.hwt
 have o2 := o.hg
 have o3 := o.hr
 have o4 := o.hv
 have o5 := o.ht
 have o6 := o.hq
 refine ⟨(ch_far3 hch o2 (by omega) _ _ _).drewN q, ?_, he, x0, x1, xa, xn, xc, rfl⟩
 show (((W.setCell ⟨gq, 0, none⟩ _).setCell ⟨gq, 1, none⟩ _).setCell ⟨gq, 2, none⟩ _).heap[gr]? = _
 exact (Below.heap_setCell _ ⟨gq, 2, none⟩ _ gr (by show gr ≠ gq; omega)).trans ((Below.heap_setCell _ ⟨gq, 1, none⟩ _ gr (by show gr ≠ gq; omega)).trans ((Below.heap_setCell _ ⟨gq, 0, none⟩ _ gr (by show gr ≠ gq; omega)).trans hrb))
theorem Lp.bad {inn : ByteArray} (h : Lp wt w1 W g A c l44 n gr cs gv gt gq tc vs kv ov ks sp i m space) (o : Lo wt w1 g gr gv gt gq) {a er : Int} (he : er ≠ 0) (x0 x1 : ByteArray) (xa : Option Addr) (xn xc : Nat) (q : Nat) :
  RRes g A c l44 n inn w1 gr cs (.error (a, er)) (.returned (.tuple #[.agg #[.string x0, .string x1, .slice xa xn xc], .int .i64 a, .int .i64 er])) ((((W.setCell ⟨gq, 0, none⟩ (.string x0)).setCell ⟨gq, 1, none⟩ (.string x1)).setCell ⟨gq, 2, none⟩ (.slice xa xn xc)).drewN q) := by
 exact bad0 h.ch h.rb o he x0 x1 xa xn xc q
theorem Lp.good {x0 x1 : ByteArray} {xa : Option Addr} {xn xc : Nat} {toks : List C.S44} (h : Lp wt w1 W g A c l44 n gr cs gv gt gq tc vs (.slice xa xn xc) ov ks sp i m space) (o : Lo wt w1 g gr gv gt gq) (hd : l44.drop i = toks) (hi : i ≤ l44.length) :
  RRes g A c l44 n space w1 gr cs (.ok (⟨x0, x1, ks⟩, m, toks)) (.returned (.tuple #[.agg #[.string x0, .string x1, .slice xa xn xc], .int .i64 0, .int .i64 0])) (((W.setCell ⟨gq, 0, none⟩ (.string x0)).setCell ⟨gq, 1, none⟩ (.string x1)).setCell ⟨gq, 2, none⟩ (.slice xa xn xc)) := by
 have o1 := o.hwt
 have o2 := o.hg
 have o3 := o.hr
 have o4 := o.hv
 have o5 := o.ht
 have o6 := o.hq
 have hh : ∀ p, p ≠ gq → (((W.setCell ⟨gq, 0, none⟩ (.string x0)).setCell ⟨gq, 1, none⟩ (.string x1)).setCell ⟨gq, 2, none⟩ (.slice xa xn xc)).heap[p]? = W.heap[p]? := fun p hp => (Below.heap_setCell _ ⟨gq, 2, none⟩ _ p hp).trans ((Below.heap_setCell _ ⟨gq, 1, none⟩ _ p hp).trans (Below.heap_setCell _ ⟨gq, 0, none⟩ _ p hp))
 exact ⟨ch_far3 h.ch o2 (by omega) _ _ _, (hh gr (by omega)).trans h.rb, _, i, rfl, Kd.R_mono (R_far3 h.kr (fun k hk _ _ => hk.2.2) _ _ _) (fun k hk => hk.1), (hh g (by omega)).trans h.st, hd, hi⟩
end
theorem kidS_facts {n : Int} {f : Nat} {sp : List (List UInt8 × List UInt8)} {deep many : Nat} {space said : ByteArray} {toks : List C.S44} {v : S24} {m : Nat} {inn : ByteArray} {l : List C.S44} (h : kidS n f sp deep many space said toks = .ok (v, m, inn, l)) : m ≤ 20000 ∧ l.length < toks.length ∧ (deep ≠ 0 → inn = space) := by
 unfold kidS at h
 by_cases hb : blankL said.data.toList = true
 ·
  rw [if_pos hb] at h; exact elemS_facts h
 ·
  rw [if_neg hb] at h; cases toks <;> cases h
def rs15T : Bool × List (List Nat × List Nat) := (true, [([], []), ([0], [0]), ([1], [1]), ([2], [2]), ([], []), ([4], [4]), ([5], [5]), ([6], [6]), ([3, 7], [3, 7]), ([8], [8]), ([], []), ([10, 9, 0, 1, 2, 3, 4, 5, 6, 7, 8, 9, 10], [9, 10])])
def rs15B : List Nat := [0, 1, 3, 7, 0, 16, 48, 112, 255, 511, 0, 2047]
theorem rs15tab : rtab .any (opsOf Tryz.f120 15) = rs15T := by kernel_rfl
theorem rs15bits : waitsOk rs15T.2 rs15B = true := by kernel_rfl
set_option maxHeartbeats 16000000 in
set_option maxRecDepth 100000 in
theorem rest_of {wt : World} {g : Nat} {A : Option Addr} {c : Nat} {l44 : List C.S44} {n k : Nat} (hT : Tw wt g A l44 n) (ih : KidAt wt g A c l44 n k) : RestAt wt g A c l44 n k := by
 intro w1 W gr cs okk kv ov ks t A3 c3 loc inn space sp deep i m f toks hch hgw hB hS hd hi hk hf hR hO hrb hr0 hok hdp hm hsp hks
 obtain ⟨Ak, ck, rfl⟩ := Kd.R_slice hR
 have hgrW : gr < W.heap.size := (Array.getElem?_eq_some_iff.1 hrb).1
 have HLO := Lib.hid (Lo.mk (wt := wt) (w1 := w1) (g := g) (gr := gr) (gv := W.heap.size) (gt := W.heap.size + 1) (gq := W.heap.size + 1 + 1) hT.low hgw hr0 hgrW (by omega) (by omega))
 have HL : Hid (Lp wt w1 (((W.alloc (.cells #[.string ⟨#[]⟩, .string ⟨#[]⟩, .slice Ak ks.length ck] 24)).alloc (.cells #[.int .u8 t.f0, .string t.f1, .string t.f2, .slice A3 t.f3.length c3, .bool t.f4, .int .i64 t.f5] 88)).alloc (.cells #[.string ⟨#[]⟩, .string ⟨#[]⟩, .slice none 0 0] 24)) g A c l44 n gr cs W.heap.size (W.heap.size + 1) (W.heap.size + 1 + 1) #[.int .u8 t.f0, .string t.f1, .string t.f2, .slice A3 t.f3.length c3, .bool t.f4, .int .i64 t.f5] #[.string ⟨#[]⟩, .string ⟨#[]⟩, .slice Ak ks.length ck] (.slice Ak ks.length ck) ov ks sp i m space) := by
  have hb := below_alloc (below_alloc (below_alloc (Below.refl W.heap.size W) (.cells #[.string ⟨#[]⟩, .string ⟨#[]⟩, .slice Ak ks.length ck] 24)) (.cells #[.int .u8 t.f0, .string t.f1, .string t.f2, .slice A3 t.f3.length c3, .bool t.f4, .int .i64 t.f5] 88)) (.cells #[.string ⟨#[]⟩, .string ⟨#[]⟩, .slice none 0 0] 24)
  have hH : ∀ (W : World) (o : Obj) (g : Nat) (x : Obj), W.heap[g]? = some x → (W.alloc o).heap[g]? = some x := fun W o g x hx => (Below.heap_alloc _ _ _ (Array.getElem?_eq_some_iff.1 hx).1).trans hx
  have hgW : g < W.heap.size := (Array.getElem?_eq_some_iff.1 hS).1
  refine ⟨(hb.block g hgW).trans hS, hB.trans (hb.mono hB.size), ch_below hch hgw hb, hH _ _ _ _ (hH _ _ _ _ (MapKept.heap_alloc W _).1), hH _ _ _ _ ?_, ?_, (hb.block gr hgrW).trans hrb, Kd.R_mono (Kd.R_below (Kd.R_bound hR) hb) (fun k hk => ?_), Kd.R_below hO hb⟩
  ·
   have := (MapKept.heap_alloc (W.alloc (.cells #[.string ⟨#[]⟩, .string ⟨#[]⟩, .slice Ak ks.length ck] 24)) (.cells #[.int .u8 t.f0, .string t.f1, .string t.f2, .slice A3 t.f3.length c3, .bool t.f4, .int .i64 t.f5] 88)).1
   simpa using this
  ·
   have := (MapKept.heap_alloc ((W.alloc (.cells #[.string ⟨#[]⟩, .string ⟨#[]⟩, .slice Ak ks.length ck] 24)).alloc (.cells #[.int .u8 t.f0, .string t.f1, .string t.f2, .slice A3 t.f3.length c3, .bool t.f4, .int .i64 t.f5] 88)) (.cells #[.string ⟨#[]⟩, .string ⟨#[]⟩, .slice none 0 0] 24)).1
   simpa using this
  ·
   have h1 := hk.2.2.1
   exact ⟨hok k hk.1, by omega, by omega⟩
 have HT := Lib.hid hT
 have IH := Lib.hid ih
 have HD := Lib.hid hd
 obtain ⟨Ao, co, rfl⟩ := Kd.R_slice hO
 clear hT ih hd hch hB hS hR hO hrb hok
 obtain ⟨S2, hS2⟩ : ∃ S2, (if deep = 0 then inn else space) = S2 := ⟨_, rfl⟩
 obtain ⟨R, hRR⟩ : ∃ R, restS (n : Int) f ks t loc inn sp deep m space toks = R := ⟨_, rfl⟩
 rw [hS2, hRR]
 unfold restS at hRR
 rw [hS2] at hRR
 have HS2 := Lib.hid hS2
 have HRR := Lib.hid hRR
 clear hS2 hRR
 go_enter Tryz.func120, Tryz.ntmps120
 go_upto_if 24 with fail
 generalize hgq : W.heap.size + 1 + 1 = gq at HL HLO ⊢
 generalize hgt : W.heap.size + 1 = gt at HL HLO ⊢
 generalize hgv : W.heap.size = gv at HL HLO ⊢
 have HGE := Lib.hid (show gr < gv from by omega)
 clear hgq hgt hgv hgrW
 generalize ((W.alloc _).alloc _).alloc _ = W1 at HL ⊢
 go_cut [] (fun wc => Hid (Lp wt w1 wc g A c l44 n gr cs gv gt gq #[.int .u8 t.f0, .string t.f1, .string t.f2, .slice A3 t.f3.length c3, .bool t.f4, .int .i64 t.f5] #[.string ⟨#[]⟩, .string ⟨#[]⟩, .slice Ak ks.length ck] (.slice Ak ks.length ck) (.slice Ao (spS sp).length co) ks sp i m S2))
 case first =>
  as_aux_lemma =>
   by_cases hd0 : deep = 0
   ·
    have z1 : ((deep : Int) == 0) = true := by rw [hd0]; rfl
    have e : inn = S2 := by rw [← HS2.out, if_pos hd0]
    have HE := Lib.hid e
    clear e hd0
    have y4 := crow 4 (Value.string space) HL.out.st
    have f4 : W1.frozen? ⟨g, 4, none⟩ = false := frozen_of_row _ _ _ _ _ HL.out.st
    go_wp2_with fail
    go_meet
    case rel => exact HL.out.set HLO.out 4 (.string inn) (by rw [← HE.out]; rfl)
   ·
    have z1 : ((deep : Int) == 0) = false := by simpa using hd0
    have e : space = S2 := by rw [← HS2.out, if_neg hd0]
    clear hd0
    subst e
    go_wp2_with fail
    go_meet
    case rel => exact HL
 case rest =>
  have HL1 := hcut
  clear hcut HL
  have y3 := crow 3 (Value.int .i64 (m : Int)) HL1.out.st
  have f3 : wc.frozen? ⟨g, 3, none⟩ = false := frozen_of_row _ _ _ _ _ HL1.out.st
  have y4 := crow 4 (Value.string S2) HL1.out.st
  have HL2 := Lib.hid (HL1.out.set HLO.out (m' := m + 1) 3 (.int .i64 ((m : Int) + 1)) rfl)
  have q0 := crow 0 (Value.string ⟨#[]⟩) HL2.out.qb
  have q1 := crow 1 (Value.string ⟨#[]⟩) HL2.out.qb
  have q2 := crow 2 (Value.slice none 0 0) HL2.out.qb
  have g0 := frozen_of_row _ _ 0 _ _ HL2.out.qb
  have g1 := frozen_of_row _ _ 1 _ _ HL2.out.qb
  have g2 := frozen_of_row _ _ 2 _ _ HL2.out.qb
  have v0 := crow 0 (Value.string ⟨#[]⟩) HL2.out.vb
  have v1 := crow 1 (Value.string ⟨#[]⟩) HL2.out.vb
  have v2 := crow 2 (Value.slice Ak ks.length ck) HL2.out.vb
  have t5 := crow 5 (Value.int .i64 t.f5) HL2.out.tb
  have ngq : gt ≠ gq := by have := HLO.out.hq; omega
  have ngq2 : gv ≠ gq := by have := HLO.out.hq; have := HLO.out.ht; omega
  have hRR := HRR.out
  by_cases c1 : inn ≠ S2
  ·
   as_aux_lemma =>
    rw [if_pos c1] at hRR
    subst hRR
    obtain ⟨z1, z2⟩ := ba_ne c1
    clear c1
    go_wp2_with fail
    go_region
    go_wp2_with fail
    refine bodyPost_ret (results120 (s3d HL2.out.qb _ _ _) _ rfl rfl rfl) rfl ?_
    exact HL2.out.bad HLO.out (Int.ne_of_gt (by decide)) _ _ _ _ _ 1
  ·
   rw [if_neg c1] at hRR
   obtain rfl : inn = S2 := Classical.byContradiction c1
   have z1 : (inn.toList != inn.toList) = false := by unfold bne; simp
   have z2 : (inn.toList == inn.toList) = true := by simp
   clear c1
   by_cases c2 : deep = 64
   ·
    as_aux_lemma =>
     rw [if_pos c2] at hRR
     subst hRR
     have x1 : ((deep : Int) == 64) = true := by rw [c2]; rfl
     clear c2
     go_wp2_with fail
     go_region
     go_wp2_with fail
     refine bodyPost_ret (results120 (s3d HL2.out.qb _ _ _) _ rfl rfl rfl) rfl ?_
     exact HL2.out.bad HLO.out (Int.ne_of_gt (by decide)) _ _ _ _ _ 1
   ·
    rw [if_neg c2] at hRR
    have x1 : ((deep : Int) == 64) = false := by simp; omega
    have hd63 : deep ≤ 63 := by omega
    clear c2
    by_cases c3 : m + 1 > 20000
    ·
     as_aux_lemma =>
      rw [if_pos c3] at hRR
      subst hRR
      have x2 : decide ((20000 : Int) < (m : Int) + 1) = true := decide_eq_true (by omega)
      clear c3
      go_wp2_with fail
      go_region
      go_wp2_with fail
      refine bodyPost_ret (results120 (s3d HL2.out.qb _ _ _) _ rfl rfl rfl) rfl ?_
      exact HL2.out.bad HLO.out (Int.ne_of_gt (by decide)) _ _ _ _ _ 1
    ·
     rw [if_neg c3] at hRR
     have x2 : decide ((20000 : Int) < (m : Int) + 1) = false := decide_eq_false (by omega)
     have hm1 : m + 1 ≤ 20000 := by omega
     have HRR2 := Lib.hid hRR
     have HRR := HRR2
     have fv0 := frozen_of_row _ _ 0 _ _ HL2.out.vb
     have HL3 := Lib.hid (HL2.out.setv HLO.out 0 (.string loc) (vs' := #[.string loc, .string ⟨#[]⟩, .slice Ak ks.length ck]) rfl)
     have t4 := crow 4 (Value.bool t.f4) HL3.out.tb
     clear c3 hRR
     cases hself : t.f4 with
     | true =>
      as_aux_lemma =>
       have hRR := HRR.out
       rw [if_pos hself] at hRR
       subst hRR
       rw [hself] at t4
       have HSE := Lib.hid hself
       clear hself
       have r0 := crow 0 (Value.string ⟨#[]⟩) HL3.out.qb
       have r1 := crow 1 (Value.string ⟨#[]⟩) HL3.out.qb
       have r2 := crow 2 (Value.slice none 0 0) HL3.out.qb
       have k0 := frozen_of_row _ _ 0 _ _ HL3.out.qb
       have k1 := frozen_of_row _ _ 1 _ _ HL3.out.qb
       have k2 := frozen_of_row _ _ 2 _ _ HL3.out.qb
       have w0 := crow 0 (Value.string loc) HL3.out.vb
       have w1' := crow 1 (Value.string ⟨#[]⟩) HL3.out.vb
       have w2 := crow 2 (Value.slice Ak ks.length ck) HL3.out.vb
       go_wp2_with fail
       refine bodyPost_ret (results120 (s3 HL3.out.qb _ _ _) _ rfl rfl rfl) rfl ?_
       exact HL3.out.good HLO.out HD.out hi
     | false =>
      have hRR := HRR.out
      rw [if_neg (by rw [hself]; decide)] at hRR
      rw [hself] at t4
      have HSE := Lib.hid hself
      have HRR3 := Lib.hid hRR
      clear hself hRR HRR HRR2
      go_wp2_with fail
      go_loopg [17, 18] (toks.length + 1) (fun kq v17 v18 wr => ∃ (i m f' : Nat) (said : ByteArray) (hask : Bool) (ks' : List S24) (Ak' : Option Addr) (ck' : Nat) (toks' : List C.S44), v17 = .string said ∧ v18 = .bool hask ∧ Aside0 (kq = toks'.length + 1) ∧ Aside0 (toks'.length ≤ f' ∧ toks'.length ≤ k ∧ m ≤ 20000 ∧ i ≤ l44.length ∧ l44.drop i = toks' ∧ ks'.length ≤ 20 + i ∧ said.size ≤ tokM i) ∧ Aside0 (loopR (n : Int) f' ⟨loc, ⟨#[]⟩, ks', t.f1, sp, said, hask⟩ deep m inn toks' = R) ∧ Aside0 (Lp wt w1 wr g A c l44 n gr cs gv gt gq #[.int .u8 t.f0, .string t.f1, .string t.f2, .slice A3 t.f3.length c3, .bool t.f4, .int .i64 t.f5] #[.string loc, .string ⟨#[]⟩, .slice Ak' ks'.length ck'] (.slice Ak' ks'.length ck') (.slice Ao (spS sp).length co) ks' sp i m inn))
      case atStart => exact ⟨i, m + 1, f, ⟨#[]⟩, false, ks, Ak, ck, toks, rfl, rfl, ⟨rfl⟩, ⟨hf, hk, hm1, hi, HD.out, by omega, Nat.zero_le _⟩, ⟨HRR3.out⟩, ⟨HL3.out⟩⟩
      case round =>
       clear HL1 HL2 HL3 y3 f3 y4 q0 q1 q2 g0 g1 g2 v0 v1 v2 t5 fv0 t4 z1 z2 x1 x2 hi hk hf hm hm1 HD HRR3
       clear hks
       obtain ⟨i, m, f', said, hask, ks', Ak', ck', toks', rfl, rfl, HKQ, HFA, HLR, HL⟩ := hrel
       obtain ⟨hf, hk, hm, hi, hd, hks, hsd⟩ := HFA.out
       have HD := Lib.hid hd
       have s0 := crow 0 (Value.slice A (l44.map C.tr44).length c) HL.out.st
       have s1 := crow 1 (Value.int .i64 (i : Int)) HL.out.st
       rw [List.length_map] at s0
       clear hd
       cases toks' with
       | nil =>
        as_aux_lemma =>
         have hR : R = .error ((n : Int), 23) := by rw [← HLR.out]; cases f' <;> rfl
         subst hR
         have hil : i = l44.length := by
          have := congrArg List.length HD.out
          simp at this
          omega
         have b1 : decide ((i : Int) < (l44.length : Int)) = false := decide_eq_false (by omega)
         have b2 : decide (i < l44.length) = false := decide_eq_false (by omega)
         clear hil
         go_wp2_with fail
         go_quiet (fail)
         have HL5 := Lib.hid (HL.out.below HLO.out (pw_below_drewN (Below.refl wr.heap.size wr) nq))
         clear s0 s1 HL
         generalize wr.drewN nq = w5 at HL5 ⊢
         have q0 := crow 0 (Value.string ⟨#[]⟩) HL5.out.qb
         have q1 := crow 1 (Value.string ⟨#[]⟩) HL5.out.qb
         have q2 := crow 2 (Value.slice none 0 0) HL5.out.qb
         have g0 := frozen_of_row _ _ 0 _ _ HL5.out.qb
         have g1 := frozen_of_row _ _ 1 _ _ HL5.out.qb
         have g2 := frozen_of_row _ _ 2 _ _ HL5.out.qb
         have v0 := crow 0 (Value.string loc) HL5.out.vb
         have v1 := crow 1 (Value.string ⟨#[]⟩) HL5.out.vb
         have v2 := crow 2 (Value.slice Ak' ks'.length ck') HL5.out.vb
         have s2 := crow 2 (Value.int .i64 (n : Int)) HL5.out.st
         have ngq3 : g ≠ gq := by have := HLO.out.hq; have := HLO.out.ht; have := HLO.out.hv; have := HLO.out.hr; have := HLO.out.hg; omega
         go_wp2_with fail
         go_region
         go_wp2_with fail
         refine bodyPost_ret (results120 (s3d HL5.out.qb _ _ _) _ rfl rfl rfl) rfl ?_
         exact HL5.out.bad HLO.out (Int.ne_of_gt (by decide)) _ _ _ _ _ 1
       | cons x r =>
        obtain ⟨hil, hokx, hd1, ad, Ax, cx, rfl, hx0, hx1, hx2, hx3, hx4, hx5, hl3, hi3, hlt⟩ := tok_get HT.out HD.out HL.out.low
        have HD1 := Lib.hid hd1
        have HOX := Lib.hid hokx
        have b1 : decide ((i : Int) < (l44.length : Int)) = true := decide_eq_true (by omega)
        have b2 : decide (i < l44.length) = true := decide_eq_true (by omega)
        have b3 : (0 : Int) ≤ (i : Int) := by omega
        have b4 : (i : Int) < (l44.length : Int) := by omega
        clear hd1 hokx hi3 hl3
        go_wp2_with fail
        go_quiet (fail)
        have hbq := pw_below_drewN (Below.refl wr.heap.size wr) nq
        have HL5 := Lib.hid (HL.out.below HLO.out (hbq.trans ((below_drew (Below.refl (wr.drewN nq).heap.size (wr.drewN nq))).mono hbq.size)))
        clear HL hbq
        go_wp2_with fail
        refine start_ (n := 12) (S := fun w' => w'.cell? ⟨g, 0, none⟩ = some (.slice (some ad) l44.length c) ∧ w'.cell? ⟨g, 1, none⟩ = some (.int .i64 (i : Int)) ∧ w'.cell? (ad.add (i * 6)) = some (.int .u8 x.f0) ∧ w'.cell? ⟨(ad.add (i * 6)).block, (ad.add (i * 6)).off + 1, none⟩ = some (.string x.f1) ∧ w'.cell? ⟨(ad.add (i * 6)).block, (ad.add (i * 6)).off + 2, none⟩ = some (.string x.f2) ∧ w'.cell? ⟨(ad.add (i * 6)).block, (ad.add (i * 6)).off + 3, none⟩ = some (.slice Ax x.f3.length cx) ∧ w'.cell? ⟨(ad.add (i * 6)).block, (ad.add (i * 6)).off + 4, none⟩ = some (.bool x.f4) ∧ w'.cell? ⟨(ad.add (i * 6)).block, (ad.add (i * 6)).off + 5, none⟩ = some (.int .i64 x.f5)) (ds := [11]) (ms5 0 12) (by kernel_rfl) rfl rfl ⟨s0, s1, hx0, hx1, hx2, hx3, hx4, hx5⟩ (fun hHeld => ?_)
        refine with_tabW rs15tab rs15bits (fun HT_ HW_ => ?_)
        generalize (wr.drewN nq).drew = w6 at HL5 hx0 hx1 hx2 hx3 hx4 hx5 s0 s1 hHeld ⊢
        refine pure_ (i := 0) (N := some 76) (v := ?_) (a' := ?_) (ms5 1 11) rfl rfl (any_of HT_.out (by kernel_rfl)) (fun _ _ _ h => h) (Or.inl ⟨by rfl, ?_⟩) ?_ ?_
        rotate_left
        ·
         intro w'
         go_simp
         with_reducible rfl
        rotate_left
        ·
         go_simp
         rfl
        refine pure_ (i := 1) (N := some 77) (v := ?_) (a' := ?_) (ms5 2 10) rfl rfl (any_of HT_.out (by kernel_rfl)) (fun _ _ _ h => h) (Or.inl ⟨by rfl, ?_⟩) ?_ ?_
        rotate_left
        ·
         intro w'
         go_simp
         with_reducible rfl
        rotate_left
        ·
         go_simp
         rfl
        refine pure_ (i := 2) (N := some 78) (v := ?_) (a' := ?_) (ms5 3 9) rfl rfl (any_of HT_.out (by kernel_rfl)) (fun _ _ _ h => h) (Or.inl ⟨by rfl, ?_⟩) ?_ ?_
        rotate_left
        ·
         intro w'
         go_simp
         with_reducible rfl
        rotate_left
        ·
         go_simp
         rfl
        refine take_ (i := 3) (N := some 79) (v := ?_) (a' := ?_) (ms5 4 8) rfl rfl (take_ofW HT_.out HW_.out (by kernel_rfl)) (fun _ _ _ h => h) (Or.inl ⟨by rfl, ?_⟩) hHeld ?_ ?_
        rotate_left
        ·
         rintro w' ⟨s0, s1, s2, s3, s4, s5, s6, s7⟩
         go_simp
         with_reducible rfl
        rotate_left
        ·
         go_simp
         rfl
        refine pure_ (i := 4) (N := some 80) (v := ?_) (a' := ?_) (ms5 5 7) rfl rfl (any_of HT_.out (by kernel_rfl)) (fun _ _ _ h => h) (Or.inl ⟨by rfl, ?_⟩) ?_ ?_
        rotate_left
        ·
         intro w'
         go_simp
         with_reducible rfl
        rotate_left
        ·
         go_simp
         rfl
        refine pure_ (i := 5) (N := some 81) (v := ?_) (a' := ?_) (ms5 6 6) rfl rfl (any_of HT_.out (by kernel_rfl)) (fun _ _ _ h => h) (Or.inl ⟨by rfl, ?_⟩) ?_ ?_
        rotate_left
        ·
         intro w'
         go_simp
         with_reducible rfl
        rotate_left
        ·
         go_simp
         rfl
        refine pure_ (i := 6) (N := some 82) (v := ?_) (a' := ?_) (ms5 7 5) rfl rfl (any_of HT_.out (by kernel_rfl)) (fun _ _ _ h => h) (Or.inl ⟨by rfl, ?_⟩) ?_ ?_
        rotate_left
        ·
         intro w'
         go_simp
         with_reducible rfl
        rotate_left
        ·
         go_simp
         rfl
        refine take_ (i := 7) (N := some 83) (v := ?_) (a' := ?_) (ms5 8 4) rfl rfl (take_ofW HT_.out HW_.out (by kernel_rfl)) (fun _ _ _ h => h) (Or.inl ⟨by rfl, ?_⟩) hHeld ?_ ?_
        rotate_left
        ·
         rintro w' ⟨s0, s1, s2, s3, s4, s5, s6, s7⟩
         go_simp
         with_reducible rfl
        rotate_left
        ·
         go_simp
         rfl
        refine pure_ (i := 8) (N := some 84) (v := ?_) (a' := ?_) (ms5 9 3) rfl rfl (any_of HT_.out (by kernel_rfl)) (fun _ _ _ h => h) (Or.inl ⟨by rfl, ?_⟩) ?_ ?_
        rotate_left
        ·
         intro w'
         go_simp
         with_reducible rfl
        rotate_left
        ·
         go_simp
         rfl
        refine take_ (i := 9) (N := some 85) (v := ?_) (a' := ?_) (ms5 10 2) rfl rfl (take_ofW HT_.out HW_.out (by kernel_rfl)) (fun _ _ _ h => h) (Or.inl ⟨by rfl, ?_⟩) hHeld ?_ ?_
        rotate_left
        ·
         rintro w' ⟨s0, s1, s2, s3, s4, s5, s6, s7⟩
         go_simp
         with_reducible rfl
        rotate_left
        ·
         go_simp
         rfl
        refine one_ (i := 10) (N := some 19) (ms5 11 1) rfl rfl (one_of HT_.out (by kernel_rfl)) (by decide) (fun K hK => ?_)
        refine value_ (w1 := ?_) (v := ?_) (by rfl) rfl ?_ ?_
        rotate_left 2
        ·
         go_simp
         constructor
         ·
          rfl
         ·
          rfl
        have hba := below_alloc (Below.refl w6.heap.size w6)
        refine hK.out _ _ ⟨cellB (hba _) hHeld.1, cellB (hba _) hHeld.2.1, cellB (hba _) hHeld.2.2.1, cellB (hba _) hHeld.2.2.2.1, cellB (hba _) hHeld.2.2.2.2.1, cellB (hba _) hHeld.2.2.2.2.2.1, cellB (hba _) hHeld.2.2.2.2.2.2.1, cellB (hba _) hHeld.2.2.2.2.2.2.2⟩ (fun _ => ?_)
        clear hK K hba
        refine norm_ (a' := ?_) ?_ ?_
        rotate_left
        ·
         show Act.put _ (some 19) _ = _
         go_simp
         rfl
        refine last_ (i := 11) (N := none) (ms5 12 0) rfl rfl (one_of HT_.out (by kernel_rfl)) (by decide) (fun K hK => ?_)
        refine skip_ (w1 := ?_) (by rfl) rfl ?_ ?_
        rotate_left
        ·
         go_simp
         rfl
        refine hK.out _ _ ?_
        clear hK K
        refine done_ (done_of HT_.out (by kernel_rfl)) ?_
        clear HT_ HW_
        have hba6 := below_alloc (Below.refl w6.heap.size w6) (.cells #[.int .u8 x.f0, .string x.f1, .string x.f2, .slice Ax x.f3.length cx, .bool x.f4, .int .i64 x.f5] 88)
        have HX := (MapKept.heap_alloc w6 (.cells #[.int .u8 x.f0, .string x.f1, .string x.f2, .slice Ax x.f3.length cx, .bool x.f4, .int .i64 x.f5] 88)).1
        have HL6 := Lib.hid (HL5.out.below HLO.out hba6)
        have hgx : gq < w6.heap.size := (Array.getElem?_eq_some_iff.1 HL5.out.qb).1
        clear hba6 HL5 hHeld
        generalize w6.heap.size = gx at HX hgx ⊢
        generalize w6.alloc _ = w7 at HX HL6 ⊢
        obtain ⟨f2, rfl⟩ : ∃ f2, f' = f2 + 1 := ⟨f' - 1, by simp only [List.length_cons] at hf; omega⟩
        have k0 := crow 0 (Value.int .u8 x.f0) HX
        have k1 := crow 1 (Value.string x.f1) HX
        have k2 := crow 2 (Value.string x.f2) HX
        have k5 := crow 5 (Value.int .i64 x.f5) HX
        have s1 := crow 1 (Value.int .i64 (i : Int)) HL6.out.st
        have fs1 := frozen_of_row _ _ 1 _ _ HL6.out.st
        have q0 := crow 0 (Value.string ⟨#[]⟩) HL6.out.qb
        have q1 := crow 1 (Value.string ⟨#[]⟩) HL6.out.qb
        have q2 := crow 2 (Value.slice none 0 0) HL6.out.qb
        have g0 := frozen_of_row _ _ 0 _ _ HL6.out.qb
        have g1 := frozen_of_row _ _ 1 _ _ HL6.out.qb
        have g2 := frozen_of_row _ _ 2 _ _ HL6.out.qb
        have v0 := crow 0 (Value.string loc) HL6.out.vb
        have v1 := crow 1 (Value.string ⟨#[]⟩) HL6.out.vb
        have v2 := crow 2 (Value.slice Ak' ks'.length ck') HL6.out.vb
        have fv1 := frozen_of_row _ _ 1 _ _ HL6.out.vb
        have ngx : gx ≠ gq := by omega
        have ngx2 : gx ≠ g := by have := HLO.out.hq; have := HLO.out.ht; have := HLO.out.hv; have := HLO.out.hr; have := HLO.out.hg; omega
        have hx2 := HOX.out.text
        have hi4 : i ≤ 1048576 := by have := HT.out.len; omega
        have ngt : gt ≠ g := by have := HLO.out.ht; have := HLO.out.hv; have := HLO.out.hr; have := HLO.out.hg; omega
        have ngv0 : gv ≠ g := by have := HLO.out.hv; have := HLO.out.hr; have := HLO.out.hg; omega
        have ngq0 : gq ≠ g := by have := HLO.out.hq; have := HLO.out.ht; have := HLO.out.hv; have := HLO.out.hr; have := HLO.out.hg; omega
        have hsd2 : said.size ≤ 4398046511104 := by
         have h1 := tokM_mono (show i ≤ 1048576 by have := HT.out.len; omega)
         have h2 : tokM 1048576 = 4398046511104 := by decide
         omega
        have hz1 : (9223372036854775807 < said.size + x.f2.size) = False := eq_false (by omega)
        have hLR := HLR.out
        clear HLR
        by_cases c3 : x.f0 = 3
        ·
         have z1 : (x.f0 == 3) = true := by rw [c3]; rfl
         rw [loopR, if_pos c3] at hLR
         have HL7 := Lib.hid (HL6.out.set HLO.out (i' := i + 1) 1 (.int .i64 ((i : Int) + 1)) rfl)
         clear c3
         cases hask with
         | false =>
          as_aux_lemma =>
           rw [if_neg (by simp)] at hLR
           have HLR := Lib.hid hLR
           clear hLR
           go_wp2_with fail
           go_roundg (r.length + 1)
           case measure => have := HKQ.out; simp only [List.length_cons] at this; omega
           case rel => exact ⟨i + 1, m, f2, said ++ x.f2, false, ks', Ak', ck', r, rfl, rfl, ⟨rfl⟩, ⟨by simp only [List.length_cons] at hf; omega, by simp only [List.length_cons] at hk; omega, hm, by omega, HD1.out, by omega, by rw [ByteArray.size_append, tokM_succ]; omega⟩, ⟨HLR.out⟩, ⟨HL7.out⟩⟩
         | true =>
          cases hbl : blankL x.f2.data.toList with
          | true =>
           as_aux_lemma =>
            rw [if_neg (by simp [hbl])] at hLR
            have HLR := Lib.hid hLR
            have HBL := Lib.hid hbl
            clear hLR hbl
            go_wp2_with fail
            refine (rblank_any x.f2 true HBL.out (by omega) _).mono ?_
            rintro e w8 ⟨rfl, nq2, rfl⟩
            have HL8 := Lib.hid (HL7.out.below HLO.out (pw_below_drewN (Below.refl _ _) nq2))
            dsimp only
            go_wp2_with fail
            go_roundg (r.length + 1)
            case measure => have := HKQ.out; simp only [List.length_cons] at this; omega
            case rel => exact ⟨i + 1, m, f2, said ++ x.f2, true, ks', Ak', ck', r, rfl, rfl, ⟨rfl⟩, ⟨by simp only [List.length_cons] at hf; omega, by simp only [List.length_cons] at hk; omega, hm, by omega, HD1.out, by omega, by rw [ByteArray.size_append, tokM_succ]; omega⟩, ⟨HLR.out⟩, ⟨HL8.out⟩⟩
          | false =>
           as_aux_lemma =>
            rw [if_pos ⟨rfl, hbl⟩] at hLR
            subst hLR
            have HBL := Lib.hid hbl
            clear hbl
            go_wp2_with fail
            refine (rblank_any x.f2 false HBL.out (by omega) _).mono ?_
            rintro e w8 ⟨rfl, nq2, rfl⟩
            have HL8 := Lib.hid (HL7.out.below HLO.out (pw_below_drewN (Below.refl _ _) nq2))
            have hx8 := (Below.heap_setCell w7 ⟨g, 1, none⟩ (.int .i64 ((i : Int) + 1)) gx ngx2).trans HX
            clear HL7 HL6 q0 q1 q2 g0 g1 g2 v0 v1 v2 k0 k1 k2 k5 s1 fs1 fv1
            have hx9 : ((w7.setCell ⟨g, 1, none⟩ (.int .i64 ((i : Int) + 1))).drewN nq2).heap[gx]? = _ := hx8
            generalize (w7.setCell ⟨g, 1, none⟩ (.int .i64 ((i : Int) + 1))).drewN nq2 = w9 at HL8 hx9 ⊢
            have k5 := crow 5 (Value.int .i64 x.f5) hx9
            have q0 := crow 0 (Value.string ⟨#[]⟩) HL8.out.qb
            have q1 := crow 1 (Value.string ⟨#[]⟩) HL8.out.qb
            have q2 := crow 2 (Value.slice none 0 0) HL8.out.qb
            have g0 := frozen_of_row _ _ 0 _ _ HL8.out.qb
            have g1 := frozen_of_row _ _ 1 _ _ HL8.out.qb
            have g2 := frozen_of_row _ _ 2 _ _ HL8.out.qb
            have v0 := crow 0 (Value.string loc) HL8.out.vb
            have v1 := crow 1 (Value.string ⟨#[]⟩) HL8.out.vb
            have v2 := crow 2 (Value.slice Ak' ks'.length ck') HL8.out.vb
            dsimp only
            go_wp2_with fail
            go_region
            go_wp2_with fail
            refine bodyPost_ret (results120 (s3d HL8.out.qb _ _ _) _ rfl rfl rfl) rfl ?_
            exact HL8.out.bad HLO.out (Int.ne_of_gt (by decide)) _ _ _ _ _ 1
        ·
         have z1 : (x.f0 == 3) = false := by simpa using c3
         by_cases c2 : x.f0 = 2
         ·
          have z2 : (x.f0 == 2) = true := by rw [c2]; rfl
          rw [loopR, if_neg c3, if_pos c2] at hLR
          have HL7 := Lib.hid (HL6.out.set HLO.out (i' := i + 1) 1 (.int .i64 ((i : Int) + 1)) rfl)
          have t1 := crow 1 (Value.string t.f1) HL6.out.tb
          clear c2 c3
          by_cases hnm : x.f1 = t.f1
          ·
           rw [if_pos hnm] at hLR
           subst hLR
           have y1 : (x.f1.toList != t.f1.toList) = false := by rw [hnm]; unfold bne; simp
           have y2 : (x.f1.toList == t.f1.toList) = true := by rw [hnm]; simp
           clear hnm
           cases hask with
           | true =>
            as_aux_lemma =>
             go_wp2_with fail
             refine bodyPost_ret (results120 (s3 HL7.out.qb _ _ _) _ rfl rfl rfl) rfl ?_
             exact HL7.out.good HLO.out HD1.out (by omega)
           | false =>
            as_aux_lemma =>
             have HL8 := Lib.hid (HL7.out.setv HLO.out 1 (.string said) (vs' := #[.string loc, .string said, .slice Ak' ks'.length ck']) rfl)
             have ngv : gv ≠ g := by have := HLO.out.hv; have := HLO.out.hr; have := HLO.out.hg; omega
             go_wp2_with fail
             refine bodyPost_ret (results120 (s3 HL8.out.qb _ _ _) _ rfl rfl rfl) rfl ?_
             exact HL8.out.good HLO.out HD1.out (by omega)
          ·
           as_aux_lemma =>
            rw [if_neg hnm] at hLR
            subst hLR
            obtain ⟨y1, y2⟩ := ba_ne hnm
            clear hnm
            go_wp2_with fail
            go_region
            go_wp2_with fail
            refine bodyPost_ret (results120 (s3d HL7.out.qb _ _ _) _ rfl rfl rfl) rfl ?_
            exact HL7.out.bad HLO.out (Int.ne_of_gt (by decide)) _ _ _ _ _ 1
         ·
          have z2 : (x.f0 == 2) = false := by simpa using c2
          rw [loop_kid _ _ _ _ _ _ _ _ c3 c2] at hLR
          have hHE := IH.out w7 i m inn said (x :: r) Ao co sp (deep + 1) f2 HL6.out.st HL6.out.low (Kd.R_reads' HL6.out.os).2.2 (Kd.R_reads' HL6.out.os).2.1 HD.out (by simp) hk hf (by omega) hm hsp hsd2
          rw [show ((deep + 1 : Nat) : Int) = (deep : Int) + 1 from by omega] at hHE
          obtain ⟨K, hK⟩ : ∃ K, kidS (n : Int) f2 sp (deep + 1) m inn said (x :: r) = K := ⟨_, rfl⟩
          rw [hK] at hHE
          have hLR : (match (generalizing := false) K with | .error z => .error z | .ok (v, m3, _, l') => loopR (n : Int) f2 ⟨loc, ⟨#[]⟩, ks' ++ [v], t.f1, sp, said, true⟩ deep m3 inn l') = R := by rw [← hK]; exact hLR
          have HE := Lib.hid hHE
          have HKK := Lib.hid hK
          have hz7 : gx < w7.heap.size := (Array.getElem?_eq_some_iff.1 HX).1
          clear hHE hK c3 c2 k1 k2 k5 s1 fs1 fv1 q0 q1 q2 g0 g1 g2 v0 v1 v2
          go_wp2_with fail
          refine HE.out.mono ?_
          rintro e w8 ⟨hch, hr⟩
          have HCH := Lib.hid hch
          clear k0
          cases K with
          | error z =>
           as_aux_lemma =>
            obtain ⟨a, er⟩ := z
            obtain ⟨hne0, y0, y1, ya, yn, yc, rfl⟩ := hr
            subst hLR
            have hb : ∀ (p : Nat) (o : Obj), p ≠ g → p < w7.heap.size → w7.heap[p]? = some o → w8.heap[p]? = some o := fun p o hp hl hx => (HCH.out.2.2 p hl hp (by simp)).trans hx
            have o1 := HLO.out.hg
            have o2 := HLO.out.hr
            have o3 := HLO.out.hv
            have o4 := HLO.out.ht
            have o5 := HLO.out.hq
            have hq8 := hb gq _ (by omega) (by omega) HL6.out.qb
            have hv8 := hb gv _ (by omega) (by omega) HL6.out.vb
            have hr8 := hb gr _ (by omega) (by omega) HL6.out.rb
            have hz8 : gq < w8.heap.size := (Array.getElem?_eq_some_iff.1 hq8).1
            have hba := below_alloc (Below.refl w8.heap.size w8) (.cells #[.string y0, .string y1, .slice ya yn yc] 24)
            have hq9 := (hba.block gq hz8).trans hq8
            have hv9 := (hba.block gv (by omega)).trans hv8
            have hr9 := (hba.block gr (by omega)).trans hr8
            have HC9 := Lib.hid (ch_below (HL6.out.ch.trans HCH.out) o1 hba)
            have z3 : (er != 0) = true := by simpa using hne0
            have z4 : (er == 0) = false := by simpa using hne0
            have HNE := Lib.hid hne0
            clear hb hq8 hv8 hr8 hba hch hne0 hz8
            dsimp only
            go_upto_region 18 with fail
            generalize w8.alloc _ = w9 at hq9 hv9 hr9 HC9 ⊢
            have q0 := crow 0 (Value.string ⟨#[]⟩) hq9
            have q1 := crow 1 (Value.string ⟨#[]⟩) hq9
            have q2 := crow 2 (Value.slice none 0 0) hq9
            have g0 := frozen_of_row _ _ 0 _ _ hq9
            have g1 := frozen_of_row _ _ 1 _ _ hq9
            have g2 := frozen_of_row _ _ 2 _ _ hq9
            have v0 := crow 0 (Value.string loc) hv9
            have v1 := crow 1 (Value.string ⟨#[]⟩) hv9
            have v2 := crow 2 (Value.slice Ak' ks'.length ck') hv9
            go_wp2_with fail
            refine bodyPost_ret (results120 (s3 hq9 _ _ _) _ rfl rfl rfl) rfl ?_
            exact bad0 HC9.out hr9 HLO.out HNE.out _ _ _ _ _ 0
          | ok z =>
           as_aux_lemma =>
            obtain ⟨v, m3, inn3, toks3⟩ := z
            have hkf := kidS_facts HKK.out
            obtain rfl : inn3 = inn := hkf.2.2 (by omega)
            obtain ⟨kk, i3, rfl, hR8, hS8, hd3, hi3⟩ := hr
            simp only at hLR
            obtain ⟨Akk, ckk, rfl⟩ := Kd.R_slice hR8
            have HL8 := Lib.hid (HL6.out.keep HLO.out HCH.out hS8)
            have hba := below_alloc (Below.refl w8.heap.size w8) (.cells #[.string v.f0, .string v.f1, .slice Akk v.f2.length ckk] 24)
            have HL9 := Lib.hid (HL8.out.below HLO.out hba)
            have HR9 := Lib.hid (Kd.R_mono (Kd.R_lower (Kd.R_below (Kd.R_bound hR8) hba) (by have := HL6.out.ch.2.1; omega : w1.heap.size ≤ w7.heap.size)) (fun k hk => hk.2.1) : k24.R 24 _ w1.heap.size (fun k => w7.heap.size ≤ k) _ v.f2)
            have HD3 := Lib.hid hd3
            have hlt3 : i + 1 ≤ i3 := by
             have h1 := congrArg List.length HD3.out
             have h2 := congrArg List.length HD.out
             have h3 := hkf.2.1
             rw [List.length_drop] at h1 h2
             simp only [List.length_cons] at h2 h3
             omega
            have HW9 := Lib.hid (show w7.heap.size ≤ (w8.alloc (.cells #[.string v.f0, .string v.f1, .slice Akk v.f2.length ckk] 24)).heap.size by have := HCH.out.2.1; simp; omega)
            have hk9 := (MapKept.heap_alloc w8 (.cells #[.string v.f0, .string v.f1, .slice Akk v.f2.length ckk] 24)).1
            have hl7 : ∀ k, (Value.slice Ak' ks'.length ck').ownBlock = some k → k < w7.heap.size := Kd.R_lt HL6.out.kr
            have HL7 := Lib.hid hl7
            have HGX := Lib.hid (show gr < gx ∧ gv < gx from by have := HLO.out.hv; have := HLO.out.ht; have := HLO.out.hq; omega)
            have HLR := Lib.hid hLR
            have hkf1 := hkf.1
            have hkf2 := hkf.2.1
            clear hR8 hS8 hd3 hba hl7 hLR hkf hch HL8
            dsimp only
            go_upto_region 18 with fail
            generalize w8.heap.size = gk at hk9 ⊢
            generalize w8.alloc _ = w9 at HL9 HR9 HW9 hk9 ⊢
            have p0 := crow 0 (Value.string v.f0) hk9
            have p1 := crow 1 (Value.string v.f1) hk9
            have p2 := crow 2 (Value.slice Akk v.f2.length ckk) hk9
            have v2 := crow 2 (Value.slice Ak' ks'.length ck') HL9.out.vb
            go_wp2_with (at_builtin; refine Kd.R_append k24 (w0 := w9) (W := w9) w1.heap.size rfl (.tmp 104) (.tmp 106) 22 24 (.agg #[(.string ⟨#[]⟩), (.string ⟨#[]⟩), (.slice none 0 0)]) 56 rfl Tryz.underlying22 info24 rfl (by decide) (by decide) (.slice Ak' ks'.length ck') ks' v [.string v.f0, .string v.f1, .slice Akk v.f2.length ckk] (fun k => k ≠ gr ∧ k ≠ gv ∧ k ≠ gq) (fun k => w7.heap.size ≤ k) (by simp [Act.eval, Act.put]) (by simp [Act.eval, Act.put]) (k24_mkM _ _ _ v HR9.out) (fun k hk => ⟨⟨by have := HGX.out; omega, by have := HGX.out; omega, by omega⟩, fun e => by have := HL7.out k e.symm; omega⟩) (fun k hk => ⟨by have := HGX.out; have := HW9.out; omega, by have := HGX.out; have := HW9.out; omega, by have := HW9.out; omega⟩) HL9.out.kr (Below.refl _ _) (by have := HL9.out.ch.2.1; omega) (by omega) ?_)
            intro v5 w5 hA5 hb5 hg5 hat5
            obtain ⟨A5, c5, rfl⟩ := Kd.R_slice hA5
            have elen : (ks' ++ [v]).length = ks'.length + 1 := by simp
            rw [elen] at hA5
            have HEL := Lib.hid elen
            clear elen
            have HL10 := Lib.hid (HL9.out.row HLO.out hg5 hA5)
            have HL11 := Lib.hid (HL10.out.setv HLO.out 2 (.slice A5 (ks'.length + 1) c5) (vs' := #[.string loc, .string ⟨#[]⟩, .slice A5 (ks'.length + 1) c5]) rfl)
            have v2 := crow 2 (Value.slice Ak' ks'.length ck') HL10.out.vb
            have fv2 := frozen_of_row _ _ 2 _ _ HL10.out.vb
            clear hA5 hb5 hg5 hat5
            go_wp2_with fail
            go_roundg (toks3.length + 1)
            case measure => have := HKQ.out; omega
            case rel => exact ⟨i3, m3, f2, said, true, ks' ++ [v], A5, c5, toks3, rfl, rfl, ⟨rfl⟩, ⟨by omega, by omega, hkf1, hi3, HD3.out, by simp; omega, by have := tokM_mono (show i ≤ i3 by omega); omega⟩, ⟨HLR.out⟩, ⟨by rw [HEL.out]; exact HL11.out⟩⟩
end Go.Proofs.YtknfpggiigncpaaGreatDoor.T
