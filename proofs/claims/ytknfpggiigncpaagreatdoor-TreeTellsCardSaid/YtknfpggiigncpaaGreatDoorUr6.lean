/- The document's Parse, walked by hand. -/
import Derived.Test.YtknfpggiigncpaaGreatDoorUr5
import Derived.Test.YtknfpggiigncpaaGreatDoorTr7
import Derived.Test.YtknfpggiigncpaaGreatDoorRt6
set_option linter.unusedVariables false
set_option linter.unusedSimpArgs false
namespace Go.Proofs.YtknfpggiigncpaaGreatDoor.T
open Go.RowKit P E YtknfpggiigncpaaGreatDoorW.PrintLast YtknfpggiigncpaaGreatDoorW.PrintMore
open YtknfpggiigncpaaGreatDoorW.PrintWords
open C (Ch)
theorem elem_all {wt : World} {g : Nat} {A : Option Addr} {c : Nat} {l44 : List C.S44} {n : Nat} (hT : Tw wt g A l44 n) : ∀ k, ElemAt wt g A c l44 n k
 | 0 => fun W i m space toks A2 c2 sp deep f _ _ _ _ _ hne hk _ _ _ _ => absurd (List.length_eq_zero_iff.1 (Nat.le_zero.1 hk)) hne
 | k + 1 => elem_of hT (rest_of hT (kid_of hT (elem_all hT k)))
theorem top_elem (n : Int) (k : Nat) (done : Bool) (root : S24) (many : Nat) (space : ByteArray) (x : C.S44) (l : List C.S44) : topR n (k + 1) done root many space (x :: l) =
  if x.f0 = 3 ∧ blankL x.f2.data.toList = true then topR n k done root many space l
  else if x.f0 ≠ 1 ∨ done = true then badG x.f5 23
  else match elemS n k [] 0 many space (x :: l) with
   | .error z => badG z.1 z.2
   | .ok (v, m, sp2, l') => topR n k true v m sp2 l' := by
 rw [topR, elemS]
 by_cases h1 : x.f0 = 3 ∧ blankL x.f2.data.toList = true
 ·
  rw [if_pos h1, if_pos h1]
 ·
  rw [if_neg h1, if_neg h1]
  by_cases h2 : x.f0 ≠ 1 ∨ done = true
  ·
   rw [if_pos h2, if_pos h2]
  ·
   rw [if_neg h2, if_neg h2]
   cases hh : headT [] 0 many space x with
   | error e => rfl
   | ok z =>
    obtain ⟨nd, m2, s2⟩ := z
    simp only
    by_cases h4 : x.f4 = true
    ·
     rw [if_pos h4, if_pos h4]
    ·
     rw [if_neg h4, if_neg h4]
     cases loopR n k nd 0 m2 s2 l with
     | error z => rfl
     | ok z => rfl
theorem results37 {g : Nat} {x0 x1 x2 sp at_ er : Value} {W : World} (h : W.heap[g]? = some (.cells #[x0, x1, x2] 24 (0, 0))) (tmps : Array Value) (h2 : tmps.getD 2 undef = sp) (h3 : tmps.getD 3 undef = .pointer (some ⟨g, 0, none⟩)) (h4 : tmps.getD 4 undef = at_) (h5 : tmps.getD 5 undef = er) :
  (results Tryz.f37 tmps).run Tryz.prog W = .ok (.tuple #[sp, .agg #[x0, x1, x2], at_, er]) W := by
 have k0 := crow 0 x0 h
 have k1 := crow 1 x1 h
 have k2 := crow 2 x2 h
 rw [Array.getD_eq_getD_getElem?] at h2 h3 h4 h5
 simp [results, Tryz.results37, go_sem, h2, h3, h4, h5, k0, k1, k2]
structure Pp (wt : World) (base : Nat) (W : World) (g gx : Nat) (A : Option Addr) (c : Nat) (l44 : List C.S44) (n : Nat) (root : S24) (kv : Value) (i m : Nat) (space : ByteArray) : Prop where
 st : Sst g A c (l44.map C.tr44) i n m space W
 low : Below wt.heap.size wt W
 rt : W.heap[gx]? = some (.cells #[.string root.f0, .string root.f1, kv] 24 (0, 0))
 rr : k24.R 24 W base (fun _ => True) kv root.f2
 sz : base ≤ W.heap.size
structure Pq (wt : World) (base g gx : Nat) : Prop where
 hwt : wt.heap.size ≤ g
 hx : g < gx
 hb : gx < base
section
variable {wt W : World} {base g gx : Nat} {A : Option Addr} {c : Nat} {l44 : List C.S44} {n : Nat} {root : S24} {kv : Value} {i m : Nat} {space : ByteArray}
theorem Pp.below (h : Pp wt base W g gx A c l44 n root kv i m space) (o : Pq wt base g gx) {W' : World} (hb : Below W.heap.size W W') : Pp wt base W' g gx A c l44 n root kv i m space :=
 ⟨(hb.block g (Array.getElem?_eq_some_iff.1 h.st).1).trans h.st, h.low.trans (hb.mono h.low.size), (hb.block gx (Array.getElem?_eq_some_iff.1 h.rt).1).trans h.rt, Kd.R_below h.rr hb, Nat.le_trans h.sz hb.size⟩
theorem Pp.set (h : Pp wt base W g gx A c l44 n root kv i m space) (o : Pq wt base g gx) (j : Nat) (u : Value) {i' m' : Nat} {space' : ByteArray}
  (hu : (#[.slice A (l44.map C.tr44).length c, .int .i64 (i : Int), .int .i64 (n : Int), .int .i64 (m : Int), .string space] : Array Value).setIfInBounds j u = #[.slice A (l44.map C.tr44).length c, .int .i64 (i' : Int), .int .i64 (n : Int), .int .i64 (m' : Int), .string space']) :
  Pp wt base (W.setCell ⟨g, j, none⟩ u) g gx A c l44 n root kv i' m' space' := by
 have o1 := o.hwt
 have o2 := o.hx
 have o3 := o.hb
 exact ⟨(blk_set h.st j u).trans (by rw [hu]), h.low.setCell (p := ⟨g, j, none⟩) o1 u, (Below.heap_setCell W ⟨g, j, none⟩ u gx (by show gx ≠ g; omega)).trans h.rt,
  Kd.R_mono (Kd.R_far (Kd.R_bound h.rr) (p := ⟨g, j, none⟩) (fun k hk => by have := hk.2.1; show k ≠ g; omega) u) (fun _ _ => trivial), by simpa using h.sz⟩
theorem Pp.newroot (h : Pp wt base W g gx A c l44 n root kv i m space) (o : Pq wt base g gx) {v : S24} {kv2 : Value} (hR : k24.R 24 W base (fun _ => True) kv2 v.f2) : Pp wt base (((W.setCell ⟨gx, 0, none⟩ (.string v.f0)).setCell ⟨gx, 1, none⟩ (.string v.f1)).setCell ⟨gx, 2, none⟩ kv2) g gx A c l44 n v kv2 i m space := by
 have o1 := o.hwt
 have o2 := o.hx
 have o3 := o.hb
 have hh : ∀ p, p ≠ gx → (((W.setCell ⟨gx, 0, none⟩ (.string v.f0)).setCell ⟨gx, 1, none⟩ (.string v.f1)).setCell ⟨gx, 2, none⟩ kv2).heap[p]? = W.heap[p]? := fun p hp => (Below.heap_setCell _ ⟨gx, 2, none⟩ _ p hp).trans ((Below.heap_setCell _ ⟨gx, 1, none⟩ _ p hp).trans (Below.heap_setCell _ ⟨gx, 0, none⟩ _ p hp))
 exact ⟨(hh g (by omega)).trans h.st, below_set3 h.low (by omega) _ _ _, s3 h.rt _ _ _, Kd.R_mono (R_far3 (Kd.R_bound hR) (fun k hk _ _ => by have := hk.2.1; omega) _ _ _) (fun _ _ => trivial), by simpa using h.sz⟩
end
def parseD (s : ByteArray) : Got := if (C.tokR s).2.2 ≠ 0 then badG (C.tokR s).2.1 (C.tokR s).2.2 else topR (s.size : Int) (C.tokR s).1.length false z24 0 ⟨#[]⟩ (C.tokR s).1
set_option maxHeartbeats 16000000 in
set_option maxRecDepth 100000 in
theorem rparse_any (s : ByteArray) (w : World) (hs : s.size ≤ 3000) : Calls Tryz.prog 37 #[.string s] w (TreePost w (parseD s)) := by
 have hok := tokR_oks s
 have hrt := fun w => C.rTokens s w hs
 obtain ⟨R, hR⟩ : ∃ R, parseD s = R := ⟨_, rfl⟩
 rw [hR]
 unfold parseD at hR
 generalize C.tokR s = X at hrt hok hR
 obtain ⟨l, ta, te⟩ := X
 simp only at hrt hok hR
 obtain ⟨hl, hok⟩ := hok
 have HOK := Lib.hid hok
 have HF := Lib.hid hrt
 have HRR := Lib.hid hR
 have hba := below_alloc (Below.refl w.heap.size w) (.cells #[.string ⟨#[]⟩, .string ⟨#[]⟩, .slice none 0 0] 24)
 have hg0 := (MapKept.heap_alloc w (.cells #[.string ⟨#[]⟩, .string ⟨#[]⟩, .slice none 0 0] 24)).1
 have HBA := Lib.hid hba
 clear hok hR hba hrt
 go_enter Tryz.func37, Tryz.ntmps37
 go_wp2_with fail
 refine (HF.out _).mono ?_
 rintro e w1 ⟨v1, rfl, hS1, hb1⟩
 obtain ⟨A1, c1, rfl, hc1, hC1⟩ := Kd.S_reads hS1
 have HC1 := Lib.hid hC1
 have HB1 := Lib.hid (HBA.out.trans (hb1.mono HBA.out.size))
 have hg1 := (hb1.block w.heap.size (by simp)).trans hg0
 have hgw : w.heap.size < w1.heap.size := (Array.getElem?_eq_some_iff.1 hg1).1
 clear hS1 hC1 hb1 hg0
 by_cases hte : te ≠ 0
 ·
  as_aux_lemma =>
   obtain rfl : R = badG ta te := by rw [← HRR.out]; exact if_pos hte
   have g1 : (te != 0) = true := by simpa using hte
   have g2 : (te == 0) = false := by simpa using hte
   clear hte
   have y0 := crow 0 (Value.string ⟨#[]⟩) hg1
   have f0 := frozen_of_row _ _ 0 _ _ hg1
   have y1 := crow 1 (Value.string ⟨#[]⟩) hg1
   have f1 := frozen_of_row _ _ 1 _ _ hg1
   have y2 := crow 2 (Value.slice none 0 0) hg1
   have f2 := frozen_of_row _ _ 2 _ _ hg1
   dsimp only
   go_wp2_with fail
   refine bodyPost_ret (results37 (set3 hg1 _ _ _) _ rfl rfl rfl rfl) rfl ?_
   exact TreePost.bad (below_set3 HB1.out (Nat.le_refl _) _ _ _)
 ·
  obtain rfl : te = 0 := Classical.byContradiction hte
  have hRR := HRR.out
  rw [if_neg (by simp)] at hRR
  have HRR2 := Lib.hid hRR
  clear hRR HRR hte
  dsimp only
  rw [List.length_map] at hc1 ⊢
  go_upto_region 7 with fail
  have HP : Hid (Pp w1 (w1.heap.size + 1 + 1) ((w1.alloc (.cells #[.slice A1 l.length c1, .int .i64 0, .int .i64 (s.size : Int), .int .i64 0, .string ⟨#[]⟩] 117)).alloc (.cells #[.string ⟨#[]⟩, .string ⟨#[]⟩, .slice none 0 0] 24)) w1.heap.size (w1.heap.size + 1) A1 c1 l s.size z24 (.slice none 0 0) 0 0 ⟨#[]⟩) := by
   have hm1 := (MapKept.heap_alloc w1 (.cells #[.slice A1 l.length c1, .int .i64 0, .int .i64 (s.size : Int), .int .i64 0, .string ⟨#[]⟩] 117)).1
   have hba1 := below_alloc (Below.refl w1.heap.size w1) (.cells #[.slice A1 l.length c1, .int .i64 0, .int .i64 (s.size : Int), .int .i64 0, .string ⟨#[]⟩] 117)
   have hz : (w1.alloc (.cells #[.slice A1 l.length c1, .int .i64 0, .int .i64 (s.size : Int), .int .i64 0, .string ⟨#[]⟩] 117)).heap.size = w1.heap.size + 1 := by simp
   generalize w1.alloc (.cells #[.slice A1 l.length c1, .int .i64 0, .int .i64 (s.size : Int), .int .i64 0, .string ⟨#[]⟩] 117) = wa at *
   have hm2 := (MapKept.heap_alloc wa (.cells #[.string ⟨#[]⟩, .string ⟨#[]⟩, .slice none 0 0] 24)).1
   have hba2 := below_alloc (Below.refl wa.heap.size wa) (.cells #[.string ⟨#[]⟩, .string ⟨#[]⟩, .slice none 0 0] 24)
   rw [hz] at hm2
   refine Lib.hid ⟨?_, hba1.trans (hba2.mono hba1.size), hm2, Kd.R_nil _ _ _ _ _, ?_⟩
   ·
    show _ = some (Obj.cells #[.slice A1 (l.map C.tr44).length c1, _, _, _, _] 117 (0, 0))
    rw [List.length_map]
    exact (hba2.block w1.heap.size (by omega)).trans hm1
   ·
    simp [hz]
  have HQ : Hid (Pq w1 (w1.heap.size + 1 + 1) w1.heap.size (w1.heap.size + 1)) := Lib.hid ⟨Nat.le_refl _, by omega, by omega⟩
  have HT : Hid (Tw w1 w1.heap.size A1 l s.size) := Lib.hid ⟨Nat.le_refl _, HC1.out, hl, HOK.out, by omega⟩
  obtain ⟨gr, hgr⟩ : ∃ p, w.heap.size = p := ⟨_, rfl⟩
  have hgw1 : gr < w1.heap.size := by omega
  have HGW := Lib.hid (show gr < w1.heap.size from by omega)
  rw [hgr] at hg1 ⊢
  have HG1 := Lib.hid hg1
  have HGR := Lib.hid hgr
  clear hg1 hgw HF HBA HC1 hgr
  generalize (w1.alloc _).alloc _ = w2 at HP ⊢
  generalize hbase : w1.heap.size + 1 + 1 = base at HP HQ ⊢
  generalize hgx : w1.heap.size + 1 = gx at HP HQ ⊢
  obtain ⟨g, hg⟩ : ∃ p, w1.heap.size = p := ⟨_, rfl⟩
  rw [hg] at HP HQ HT ⊢
  have hgrg : gr ≠ g := by omega
  have hgrx : gr ≠ gx := by omega
  clear hgx hbase hg
  go_loopg [10] (l.length + 1) (fun kq v10 wr => ∃ (i m : Nat) (done : Bool) (root : S24) (kv : Value) (space : ByteArray) (toks : List C.S44) (k : Nat), v10 = .bool done ∧ Aside0 (kq = toks.length + 1) ∧ Aside0 (toks.length ≤ k ∧ m ≤ 20000 ∧ i ≤ l.length ∧ l.drop i = toks) ∧ Aside0 (topR (s.size : Int) k done root m space toks = R) ∧ Aside0 (Pp w1 base wr g gx A1 c1 l s.size root kv i m space))
  case atStart => exact ⟨0, 0, false, z24, _, ⟨#[]⟩, l, l.length, rfl, ⟨rfl⟩, ⟨Nat.le_refl _, Nat.zero_le _, Nat.zero_le _, rfl⟩, ⟨HRR2.out⟩, ⟨HP.out⟩⟩
  case round =>
   clear HP HRR2
   obtain ⟨i, m, done, root, kv, space, toks, k, rfl, HKQ, HFA, HTR, HP⟩ := hrel
   obtain ⟨hk, hm, hi, hd⟩ := HFA.out
   obtain ⟨Ar, cr, rfl⟩ := Kd.R_slice HP.out.rr
   have HD := Lib.hid hd
   have s0 := crow 0 (Value.slice A1 (l.map C.tr44).length c1) HP.out.st
   have s1 := crow 1 (Value.int .i64 (i : Int)) HP.out.st
   rw [List.length_map] at s0
   have HZ := Lib.hid ((HP.out.low.block gr HGW.out).trans HG1.out)
   have y0 := crow 0 (Value.string ⟨#[]⟩) HZ.out
   have f0 := frozen_of_row _ _ 0 _ _ HZ.out
   have y1 := crow 1 (Value.string ⟨#[]⟩) HZ.out
   have f1 := frozen_of_row _ _ 1 _ _ HZ.out
   have y2 := crow 2 (Value.slice none 0 0) HZ.out
   have f2 := frozen_of_row _ _ 2 _ _ HZ.out
   have HBW := Lib.hid (HB1.out.trans (HP.out.low.mono (by have := HGW.out; have := HGR.out; omega)))
   have hle : w.heap.size ≤ gr := by have := HGR.out; omega
   clear hd
   cases toks with
   | nil =>
    have hR : (if done = true then (⟨space, root, (s.size : Int), 0⟩ : Got) else badG (s.size : Int) 23) = R := by rw [← HTR.out]; cases k <;> rfl
    have hil : i = l.length := by
     have := congrArg List.length HD.out
     simp at this
     omega
    have b1 : decide ((i : Int) < (l.length : Int)) = false := decide_eq_false (by omega)
    have b2 : decide (i < l.length) = false := decide_eq_false (by omega)
    clear hil HTR
    cases done with
    | false =>
     as_aux_lemma =>
      rw [if_neg (by decide)] at hR
      subst hR
      go_wp2_with fail
      refine bodyPost_ret (results37 (set3 HZ.out _ _ _) _ rfl rfl rfl rfl) rfl ?_
      exact TreePost.bad (below_set3 HBW.out hle _ _ _)
    | true =>
     rw [if_pos rfl] at hR
     subst hR
     have s4 := crow 4 (Value.string space) HP.out.st
     have x0 := crow 0 (Value.string root.f0) HP.out.rt
     have x1 := crow 1 (Value.string root.f1) HP.out.rt
     have x2 := crow 2 (Value.slice Ar root.f2.length cr) HP.out.rt
     go_wp2_with fail
     go_region
     go_wp2_with fail
     refine bodyPost_ret (results37 (s3d HZ.out _ _ _) _ rfl rfl rfl rfl) rfl ?_
     have hb3 := below_set3 HBW.out hle (.string root.f0) (.string root.f1) (.slice Ar root.f2.length cr)
     have hq1 := HQ.out.hb
     have hq2 := HQ.out.hx
     have hq3 := HQ.out.hwt
     exact ⟨Ar, cr, rfl, (Kd.R_reads' HP.out.rr).2.1, Kd.C_below (Kd.R_reads' (R_far3 (Kd.R_bound HP.out.rr) (p := gr) (fun k hk _ _ => by have := hk.2.1; omega) _ _ _)).2.2 (below_drew (Below.refl _ _)), hb3.trans ((below_drew (Below.refl _ _)).mono hb3.size)⟩
   | cons x r =>
    obtain ⟨k, rfl⟩ : ∃ k', k = k' + 1 := ⟨k - 1, by simp only [List.length_cons] at hk; omega⟩
    have hTR := HTR.out
    rw [top_elem] at hTR
    obtain ⟨hil, hokx, hd1, ad, Ax, cx, rfl, hx0, hx1, hx2, hx3, hx4, hx5, hl3, hi3, hlt⟩ := tok_get HT.out HD.out HP.out.low
    have HD1 := Lib.hid hd1
    have hx2s := hokx.text
    have HTR2 := Lib.hid hTR
    have b1 : decide ((i : Int) < (l.length : Int)) = true := decide_eq_true (by omega)
    have b2 : decide (i < l.length) = true := decide_eq_true (by omega)
    have b3 : (0 : Int) ≤ (i : Int) := by omega
    have b4 : (i : Int) < (l.length : Int) := by omega
    have hww : w.heap.size ≤ w1.heap.size := by have := HGW.out; have := HGR.out; omega
    have nga : wr.heap.size ≠ gr := by have := HP.out.low.size; omega
    clear hd1 hokx hi3 hl3 HTR hTR y0 f0 y1 f1 y2 f2
    go_upto_region 14 with fail
    have hbx := below_alloc (Below.refl wr.heap.size wr) (.cells #[.int .u8 x.f0, .string x.f1, .string x.f2, .slice Ax x.f3.length cx, .bool x.f4, .int .i64 x.f5] 88)
    have HX := Lib.hid (MapKept.heap_alloc wr (.cells #[.int .u8 x.f0, .string x.f1, .string x.f2, .slice Ax x.f3.length cx, .bool x.f4, .int .i64 x.f5] 88)).1
    have HP3 := Lib.hid (HP.out.below HQ.out hbx)
    have hgag : wr.heap.size ≠ g := by have := (Array.getElem?_eq_some_iff.1 HP.out.st).1; omega
    clear hbx HP HZ HBW hx0 hx1 hx2 hx3 hx4 hx5 s0 s1
    generalize wr.heap.size = ga at HX nga hgag ⊢
    generalize wr.alloc _ = w3 at HX HP3 ⊢
    have k0 := crow 0 (Value.int .u8 x.f0) HX.out
    have k2 := crow 2 (Value.string x.f2) HX.out
    have hTR := HTR2.out
    clear HTR2
    by_cases c3 : x.f0 = 3
    ·
     have z1 : (x.f0 == 3) = true := by rw [c3]; rfl
     have z2 : (x.f0 != 1) = true := by rw [c3]; rfl
     have z3 : (x.f0 == 1) = false := by rw [c3]; rfl
     cases hbl : blankL x.f2.data.toList with
     | true =>
      as_aux_lemma =>
       rw [if_pos ⟨c3, hbl⟩] at hTR
       have HBL := Lib.hid hbl
       have HTR3 := Lib.hid hTR
       clear hbl hTR c3
       go_wp2_with fail
       refine (rblank_any x.f2 true HBL.out (by omega) _).mono ?_
       rintro e w8 ⟨rfl, nq, rfl⟩
       have HP4 := Lib.hid (HP3.out.below HQ.out (pw_below_drewN (Below.refl _ _) nq))
       generalize w3.drewN nq = w4 at HP4 ⊢
       have HP5 := Lib.hid (HP4.out.set HQ.out (i' := i + 1) 1 (.int .i64 ((i : Int) + 1)) rfl)
       have s1 := crow 1 (Value.int .i64 (i : Int)) HP4.out.st
       have fs1 := frozen_of_row _ _ 1 _ _ HP4.out.st
       dsimp only
       go_wp2_with fail
       go_roundg (r.length + 1)
       case measure => have := HKQ.out; simp only [List.length_cons] at this; omega
       case rel => exact ⟨i + 1, m, done, root, _, space, r, k, rfl, ⟨rfl⟩, ⟨by simp only [List.length_cons] at hk; omega, hm, by omega, HD1.out⟩, ⟨HTR3.out⟩, ⟨HP5.out⟩⟩
     | false =>
      as_aux_lemma =>
       rw [if_neg (by rw [hbl]; rintro ⟨_, h⟩; cases h), if_pos (.inl (by rw [c3]; decide))] at hTR
       subst hTR
       have HBL := Lib.hid hbl
       clear hbl c3
       go_wp2_with fail
       refine (rblank_any x.f2 false HBL.out (by omega) _).mono ?_
       rintro e w8 ⟨rfl, nq, rfl⟩
       have hbq := pw_below_drewN (Below.refl w3.heap.size w3) nq
       have HP4 := Lib.hid (HP3.out.below HQ.out hbq)
       have HX4 := Lib.hid (show (w3.drewN nq).heap[ga]? = _ from (hbq.block ga (Array.getElem?_eq_some_iff.1 HX.out).1).trans HX.out)
       clear hbq k0 k2
       generalize w3.drewN nq = w4 at HP4 HX4 ⊢
       have k0 := crow 0 (Value.int .u8 x.f0) HX4.out
       dsimp only
       have HZ4 := Lib.hid ((HP4.out.low.block gr HGW.out).trans HG1.out)
       have y0 := crow 0 (Value.string ⟨#[]⟩) HZ4.out
       have f0 := frozen_of_row _ _ 0 _ _ HZ4.out
       have y1 := crow 1 (Value.string ⟨#[]⟩) HZ4.out
       have f1 := frozen_of_row _ _ 1 _ _ HZ4.out
       have y2 := crow 2 (Value.slice none 0 0) HZ4.out
       have f2 := frozen_of_row _ _ 2 _ _ HZ4.out
       have k5 := crow 5 (Value.int .i64 x.f5) HX4.out
       go_wp2_with fail
       go_region
       go_wp2_with fail
       refine bodyPost_ret (results37 (s3d HZ4.out _ _ _) _ rfl rfl rfl rfl) rfl ?_
       have hb3 := below_set3 (HB1.out.trans (HP4.out.low.mono hww)) hle (.string ⟨#[]⟩) (.string ⟨#[]⟩) (.slice none 0 0)
       exact TreePost.bad (hb3.trans ((below_drew (Below.refl _ _)).mono hb3.size))
    ·
     have z1 : (x.f0 == 3) = false := by simpa using c3
     rw [if_neg (fun h => c3 h.1)] at hTR
     by_cases d1 : x.f0 = 1
     ·
      have z2 : (x.f0 != 1) = false := by rw [d1]; rfl
      have z3 : (x.f0 == 1) = true := by rw [d1]; rfl
      cases done with
      | true =>
       as_aux_lemma =>
        rw [if_pos (.inr rfl)] at hTR
        subst hTR
        have HZ4 := Lib.hid ((HP3.out.low.block gr HGW.out).trans HG1.out)
        have y0 := crow 0 (Value.string ⟨#[]⟩) HZ4.out
        have f0 := frozen_of_row _ _ 0 _ _ HZ4.out
        have y1 := crow 1 (Value.string ⟨#[]⟩) HZ4.out
        have f1 := frozen_of_row _ _ 1 _ _ HZ4.out
        have y2 := crow 2 (Value.slice none 0 0) HZ4.out
        have f2 := frozen_of_row _ _ 2 _ _ HZ4.out
        have k5 := crow 5 (Value.int .i64 x.f5) HX.out
        go_wp2_with fail
        go_region
        go_wp2_with fail
        refine bodyPost_ret (results37 (s3d HZ4.out _ _ _) _ rfl rfl rfl rfl) rfl ?_
        have hb3 := below_set3 (HB1.out.trans (HP3.out.low.mono hww)) hle (.string ⟨#[]⟩) (.string ⟨#[]⟩) (.slice none 0 0)
        exact TreePost.bad (hb3.trans ((below_drew (Below.refl _ _)).mono hb3.size))
      | false =>
       rw [if_neg (by rw [d1]; simp)] at hTR
       clear d1 c3
       have hel := elem_all HT.out (r.length + 1) w3 i m space (x :: r) none 0 [] 0 k HP3.out.st HP3.out.low (Kd.R_reads' (Kd.R_nil F.k174 174 w3 0 (fun _ => True))).2.2 (Nat.le_refl _) HD.out (by simp) (Nat.le_refl _) hk (by omega) hm (by simp)
       obtain ⟨E, hE⟩ : ∃ E, elemS (s.size : Int) k [] 0 m space (x :: r) = E := ⟨_, rfl⟩
       rw [hE] at hel hTR
       have HEL := Lib.hid hel
       have HEE := Lib.hid hE
       have HTR3 := Lib.hid hTR
       clear hel hE hTR
       go_wp2_with fail
       refine HEL.out.mono ?_
       rintro e w4 ⟨hch, hr⟩
       have HCH := Lib.hid hch
       have hq1 := HQ.out.hb
       have hq2 := HQ.out.hx
       have hq3 := HQ.out.hwt
       have hsz3 := HP3.out.sz
       have hsz4 : w3.heap.size ≤ w4.heap.size := hch.2.1
       have hz4 := (hch.1.block gr (by omega)).trans ((HP3.out.low.block gr HGW.out).trans HG1.out)
       have hgr4 : gr < w4.heap.size := (Array.getElem?_eq_some_iff.1 hz4).1
       clear hch k0 k2
       cases E with
       | error z =>
        as_aux_lemma =>
         obtain ⟨a, er⟩ := z
         obtain ⟨hne0, x0, x1, xa, xn, xc, rfl⟩ := hr
         have hTR := HTR3.out
         simp only at hTR
         subst hTR
         have u3 : (er != 0) = true := by simpa using hne0
         have u4 : (er == 0) = false := by simpa using hne0
         clear hne0
         have hba := below_alloc (Below.refl w4.heap.size w4) (.cells #[.string x0, .string x1, .slice xa xn xc] 24)
         have hz5 := (hba.block gr hgr4).trans hz4
         have hb4 : Below w.heap.size w (w4.alloc (.cells #[.string x0, .string x1, .slice xa xn xc] 24)) := (HB1.out.trans ((HP3.out.low.trans (HCH.out.1.mono (by omega))).mono hww)).trans (hba.mono (by omega))
         have HB4 := Lib.hid hb4
         clear hba hb4 hz4
         dsimp only
         go_upto_region 10 with fail
         generalize w4.alloc _ = w5 at hz5 HB4 ⊢
         have y0 := crow 0 (Value.string ⟨#[]⟩) hz5
         have f0 := frozen_of_row _ _ 0 _ _ hz5
         have y1 := crow 1 (Value.string ⟨#[]⟩) hz5
         have f1 := frozen_of_row _ _ 1 _ _ hz5
         have y2 := crow 2 (Value.slice none 0 0) hz5
         have f2 := frozen_of_row _ _ 2 _ _ hz5
         go_wp2_with fail
         refine bodyPost_ret (results37 (set3 hz5 _ _ _) _ rfl rfl rfl rfl) rfl ?_
         exact TreePost.bad (below_set3 HB4.out hle _ _ _)
       | ok z =>
        as_aux_lemma =>
         obtain ⟨v, m3, inn, toks3⟩ := z
         have hkf := elemS_facts HEE.out
         obtain ⟨kv, i3, rfl, hR8, hS8, hd3, hi3⟩ := hr
         obtain ⟨Akk, ckk, rfl⟩ := Kd.R_slice hR8
         have hTR := HTR3.out
         simp only at hTR
         have HTR4 := Lib.hid hTR
         have HD3 := Lib.hid hd3
         have hrt4 := (HCH.out.2.2 gx (by omega) (by omega) (by simp)).trans HP3.out.rt
         have HP4 : Hid (Pp w1 base w4 g gx (some ad) c1 l s.size root (.slice Ar root.f2.length cr) i3 m3 inn) := Lib.hid ⟨hS8, HP3.out.low.trans (HCH.out.1.mono (by omega)), hrt4, Kd.R_mono (Kd.R_keep (Kd.R_bound HP3.out.rr) HCH.out.2 (fun k hk => by have := hk.2.1; omega)) (fun _ _ => trivial), by omega⟩
         have hR9 := Kd.R_lower hR8 hsz3
         have hba := below_alloc (Below.refl w4.heap.size w4) (.cells #[.string v.f0, .string v.f1, .slice Akk v.f2.length ckk] 24)
         have HP5 := Lib.hid (HP4.out.below HQ.out hba)
         have HR5 := Lib.hid (Kd.R_below hR9 hba)
         have hk9 := (MapKept.heap_alloc w4 (.cells #[.string v.f0, .string v.f1, .slice Akk v.f2.length ckk] 24)).1
         have ngx4 : w4.heap.size ≠ gx := by omega
         clear hTR hd3 hrt4 hR8 hS8 hR9 hba HP4 hz4
         dsimp only
         go_upto_region 10 with fail
         generalize w4.heap.size = gk4 at hk9 ngx4 ⊢
         generalize w4.alloc _ = w5 at HP5 HR5 hk9 ⊢
         have p0 := crow 0 (Value.string v.f0) hk9
         have p1 := crow 1 (Value.string v.f1) hk9
         have p2 := crow 2 (Value.slice Akk v.f2.length ckk) hk9
         have x0 := crow 0 (Value.string root.f0) HP5.out.rt
         have x1 := crow 1 (Value.string root.f1) HP5.out.rt
         have x2 := crow 2 (Value.slice Ar root.f2.length cr) HP5.out.rt
         have fx0 := frozen_of_row _ _ 0 _ _ HP5.out.rt
         have fx1 := frozen_of_row _ _ 1 _ _ HP5.out.rt
         have fx2 := frozen_of_row _ _ 2 _ _ HP5.out.rt
         have HP6 := Lib.hid (HP5.out.newroot HQ.out HR5.out)
         go_wp2_with fail
         go_roundg (toks3.length + 1)
         case measure => have := HKQ.out; have := hkf.2.1; omega
         case rel => exact ⟨i3, m3, true, v, _, inn, toks3, k, rfl, ⟨rfl⟩, ⟨by have := hkf.2.1; omega, hkf.1, hi3, HD3.out⟩, ⟨HTR4.out⟩, ⟨HP6.out⟩⟩
     ·
      as_aux_lemma =>
       have z2 : (x.f0 != 1) = true := by simpa using d1
       have z3 : (x.f0 == 1) = false := by simpa using d1
       rw [if_pos (.inl d1)] at hTR
       subst hTR
       have HZ4 := Lib.hid ((HP3.out.low.block gr HGW.out).trans HG1.out)
       have y0 := crow 0 (Value.string ⟨#[]⟩) HZ4.out
       have f0 := frozen_of_row _ _ 0 _ _ HZ4.out
       have y1 := crow 1 (Value.string ⟨#[]⟩) HZ4.out
       have f1 := frozen_of_row _ _ 1 _ _ HZ4.out
       have y2 := crow 2 (Value.slice none 0 0) HZ4.out
       have f2 := frozen_of_row _ _ 2 _ _ HZ4.out
       have k5 := crow 5 (Value.int .i64 x.f5) HX.out
       go_wp2_with fail
       go_region
       go_wp2_with fail
       refine bodyPost_ret (results37 (s3d HZ4.out _ _ _) _ rfl rfl rfl rfl) rfl ?_
       have hb3 := below_set3 (HB1.out.trans (HP3.out.low.mono hww)) hle (.string ⟨#[]⟩) (.string ⟨#[]⟩) (.slice none 0 0)
       exact TreePost.bad (hb3.trans ((below_drew (Below.refl _ _)).mono hb3.size))
end Go.Proofs.YtknfpggiigncpaaGreatDoor.T
