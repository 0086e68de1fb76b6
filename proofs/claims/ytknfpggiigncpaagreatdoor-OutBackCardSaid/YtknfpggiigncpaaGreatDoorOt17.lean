/- out.May, walked by hand: a range over a function. -/
import Derived.Test.YtknfpggiigncpaaGreatDoorOt14
import Derived.Test.YtknfpggiigncpaaGreatDoorOt11n
set_option maxHeartbeats 8000000
set_option maxRecDepth 100000
set_option linter.unusedVariables false
set_option linter.unusedSimpArgs false
namespace Go.Proofs.YtknfpggiigncpaaGreatDoor.E
open Go.RowKit Go.Shelf P YtknfpggiigncpaaGreatDoorW.PrintLast YtknfpggiigncpaaGreatDoorW.PrintMore
open YtknfpggiigncpaaGreatDoorW.PrintWords
attribute [local go_sem] Oper.semAt_some
def Rdm (B n b c : Nat) (W W' : World) : Prop := KeepsFrom B W W' ∧ KeepB n b c W W'
theorem Rdm.trans {B n b c : Nat} {X Y Z : World} (h : Rdm B n b c X Y) (k : Rdm B n b c Y Z) : Rdm B n b c X Z := ⟨h.1.trans k.1, h.2.trans k.2⟩
theorem Rdm.of_below {B n b c : Nat} {W W' : World} (h : Below W.heap.size W W') (hn : n ≤ W.heap.size) : Rdm B n b c W W' :=
 ⟨⟨h.size, fun k o _ hk _ => (h.block k (Array.getElem?_eq_some_iff.1 hk).1).trans hk⟩, KeepB.of_below h hn⟩
theorem Rdm.set {B n b c d : Nat} {W : World} (v : Value) (hd : d = b ∨ d = c) (hn : n ≤ d) : Rdm B n b c W (W.setCell ⟨d, 0, none⟩ v) := by
 refine ⟨(KeepsOthers.setCell _ _ _).from _, ⟨⟨(Below.refl n W).setCell (p := ⟨d, 0, none⟩) hn _, by simp⟩, fun k o ho _ h1 h2 => ?_⟩⟩
 exact ((grownBy_setCell' W d v).block k (Array.getElem?_eq_some_iff.1 ho).1 (fun e => by cases e; omega)).trans ho
theorem bv_own {B b : Nat} {v : S24} {A : Option Addr} {c : Nat} {X Y : World} {row : Option Nat} (h : Bv X b v A c) (hg : X.grownBy Y row) (hr : ∀ r, row = some r → B ≤ r ∧ ∃ o : Obj, X.heap[r]? = some o ∧ o.isCells = false) : Bv Y b v A c :=
 (hg.block b (Array.getElem?_eq_some_iff.1 h).1 (fun e => by obtain ⟨_, o, ho, hc⟩ := hr b e.symm; unfold Bv at h; rw [h] at ho; cases ho; cases hc)).trans h
theorem may_no (v : S24) (A : Option Addr) (c : Nat) (w : World) (hr : k24.C w A v.f2.length v.f2) (hc : v.f2.length ≤ c) (hat : attrB v = true) :
  Calls Tryz.prog 19 #[.agg #[.string v.f0, .string v.f1, .slice A v.f2.length c]] w fun e w' => e = .returned (.bool false) ∧ Below w.heap.size w w' := by
 have hu24 := Tryz.underlying24
 have HR := Lib.hid hr
 clear hr
 go_enter Tryz.func19, Tryz.ntmps19
 go_wp2_with fail
 refine (attr51 v A c _ (Kd.C_below HR.out (below_alloc (below_alloc (below_alloc (Below.refl _ _) _) _) _)) hc).mono ?_
 rintro e w1 ⟨rfl, hb1⟩
 rw [hat]
 have hB : Below w.heap.size w w1 := (below_alloc (below_alloc (below_alloc (Below.refl w.heap.size w) _) _) _).trans (hb1.mono (by simp; omega))
 have bR : Boxed w1 (w.heap.size + 1) 4 (.bool false) := by
  refine (hb1.block _ (by simp)).trans ?_
  have := (Boxed.new (w.alloc (.cells #[.string v.f0, .string v.f1, .slice A v.f2.length c] 24)) 4 (.bool false)).alloc (.cells #[.int .i64 0] 3)
  rw [World.size_alloc] at this
  exact this
 have HBl := Lib.hid hB
 clear hb1 hB
 have hcl := bR.cell
 have hfr := bR.frozen
 go_wp2_with fail
 have hc5 : (w1.setCell ⟨w.heap.size + 1, 0, none⟩ (.bool false)).cell? ⟨w.heap.size + 1, 0, none⟩ = some (.bool false) := World.cell?_setCell_same' _ _ _ (by rw [hcl]; rfl)
 refine bodyPost_ret (v := .bool false) (by simp [results, Tryz.f19, go_sem, hc5]) rfl ?_
 exact ⟨rfl, HBl.out.setCell (p := ⟨w.heap.size + 1, 0, none⟩) (by simp) _⟩
theorem may_yes (v : S24) (A : Option Addr) (c : Nat) (w : World) (hr : k24.C w A v.f2.length v.f2) (hc : v.f2.length ≤ c) (hG : Glob w) (hsm : smallT 65 v) (hcnt : cntL v.f2 ≤ 1000) (hat : attrB v = false) :
  Calls Tryz.prog 19 #[.agg #[.string v.f0, .string v.f1, .slice A v.f2.length c]] w fun e w' => e = .returned (.bool ((partsT 64 1 v).all partB)) ∧ Below w.heap.size w w' := by
 have hu24 := Tryz.underlying24
 have HR := Lib.hid hr
 have HG := Lib.hid hG
 clear hr hG
 refine (callsIn_wide (n := 6)).1 ?_
 have h1 : 1 ≤ 6 := by omega
 refine callsIn_of_wp_marks Tryz.func19 rfl trivial ?_ rfl
 simp only [Tryz.ntmps19, List.size_toArray, List.length_cons, List.length_nil, Nat.reduceAdd, Nat.reduceSub, Array.replicate_succ, Array.replicate_zero, List.push_toArray, List.append_toArray, List.nil_append, List.cons_append]
 gi_wp2
 refine ⟨trivial, (callsIn_wide.2 (attr51 v A c _ (Kd.C_below HR.out (below_alloc (below_alloc (below_alloc (Below.refl _ _) _) _) _)) hc)).mono ?_⟩
 rintro e w1 ⟨rfl, hb1⟩
 rw [hat]
 have hB : Below w.heap.size w w1 := (below_alloc (below_alloc (below_alloc (Below.refl w.heap.size w) _) _) _).trans (hb1.mono (by simp; omega))
 have bR : Boxed w1 (w.heap.size + 1) 4 (.bool false) := by
  refine (hb1.block _ (by simp)).trans ?_
  have := (Boxed.new (w.alloc (.cells #[.string v.f0, .string v.f1, .slice A v.f2.length c] 24)) 4 (.bool false)).alloc (.cells #[.int .i64 0] 3)
  rw [World.size_alloc] at this
  exact this
 have bM : Boxed w1 (w.heap.size + 1 + 1) 3 (.int .i64 0) := by
  refine (hb1.block _ (by simp)).trans ?_
  have := Boxed.new ((w.alloc (.cells #[.string v.f0, .string v.f1, .slice A v.f2.length c] 24)).alloc (.cells #[.bool false] 4)) 3 (.int .i64 0)
  rw [World.size_alloc, World.size_alloc] at this
  exact this
 have bV : Bv w1 w.heap.size v A c := by
  refine (hb1.block _ (by simp; omega)).trans ?_
  refine (Below.heap_alloc _ _ _ (by simp; omega)).trans ((Below.heap_alloc _ _ _ (by simp)).trans ?_)
  exact cells_al w _ 24
 have HBl := Lib.hid hB
 clear hb1 hB
 obtain ⟨v0, v1, v2⟩ := bV.cells
 gi_wp2
 refine ⟨trivial, (parts_in Fence.wide 5 trivial rfl v A c w1).mono ?_⟩
 rintro e w2 ⟨rfl, rfl⟩
 gi_wp2
 have bt := cells_al w1 #[.string v.f0, .string v.f1, .slice A v.f2.length c] 24
 have hB2 : Below w.heap.size w (w1.alloc (.cells #[.string v.f0, .string v.f1, .slice A v.f2.length c] 24)) := HBl.out.alloc HBl.out.size _
 have hsz := HBl.out.size
 have lR := bR.lt
 have lM := bM.lt
 refine wpIn_rangeFunc_ownH rfl h1 (gf := 81) (lb := #[.pointer (some ⟨w1.heap.size, 0, none⟩)]) rfl trivial (enters_of Tryz.func81 (by kernel_rfl) rfl)
  (parts_stops Fence.wide rfl (6 - 1) trivial trivial rfl w (w.heap.size + 1) (w.heap.size + 1 + 1) w1.heap.size v A c _ bt hsm HR.out hc hB2 (by simp; omega) (by simp; omega))
  (fun h k => h.trans k) (keepB_b (by simp; omega)) (Below.refl _ _) (fun _ => rfl)
  (fun pre W => ((Boxed W (w.heap.size + 1) 4 (.bool false) ∧ Boxed W (w.heap.size + 1 + 1) 3 (.int .i64 (pre.length : Int))) ∧ (∀ x ∈ pre, partB (prj x) = true)) ∧ Below w.heap.size w W)
  (fun cd pre W => ((cd = .ret ∧ ∃ x ∈ pre, partB (prj x) = false) ∧ Boxed W (w.heap.size + 1) 4 (.bool false)) ∧ Below w.heap.size w W)
  (OwnFrom.and (OwnFrom.and (OwnFrom.and (Own.from (boxed_own _ _ _) _) (Own.from (boxed_own _ _ _) _)) (ownFrom_pure _ _)) (ownFrom_below (Nat.le_refl _) (by simp; omega)))
  (fun cd => OwnFrom.and (OwnFrom.and (ownFrom_pure _ _) (Own.from (boxed_own _ _ _) _)) (ownFrom_below (Nat.le_refl _) (by simp; omega)))
  ⟨⟨⟨bR.alloc _, bM.alloc _⟩, by simp⟩, hB2⟩
  (fun x a' W => ∃ Bx, w.heap.size + 1 + 1 < Bx ∧ Bv W Bx x.1.2.1 x.1.2.2.1 x.1.2.2.2 ∧ a' = { tmps := #[.agg #[.string v.f0, .string v.f1, .slice A v.f2.length c], .pointer (some ⟨w.heap.size, 0, none⟩), .pointer (some ⟨w.heap.size + 1, 0, none⟩), .pointer (some ⟨w.heap.size + 1 + 1, 0, none⟩), .int .i64 (x.1.1 : Int), .pointer (some ⟨Bx, 0, none⟩), .agg #[.string v.f0, .string v.f1, .slice A v.f2.length c], .bool false, .agg #[.string v.f0, .string v.f1, .slice A v.f2.length c], .func (.func 81) #[] #[.pointer (some ⟨w1.heap.size, 0, none⟩)], .int .i64 (x.1.1 : Int), .agg #[.string x.1.2.1.f0, .string x.1.2.1.f1, .slice x.1.2.2.1 x.1.2.1.f2.length x.1.2.2.2], undef, undef, undef, undef, undef, undef, undef, undef, undef, undef, undef, undef, undef, undef, undef, undef, undef, undef], defers := [] })
  (fun x a' _ X Y row hs hg hr => by obtain ⟨Bx, h1, h2, h3⟩ := hs; exact ⟨Bx, h1, bv_own h2 hg hr, h3⟩)
  ?assign ?body ?done ?stop
 case assign =>
  rintro l pre x W K ⟨⟨⟨bR1, bM1⟩, hp1⟩, hB1⟩ hK
  simp only [encI, valI]
  gi_wp2
  exact hK _ _ ((KeepsOthers.alloc _ _).from _) (KeepB.of_below (below_alloc (Below.refl _ _) _) hB1.size) ⟨⟨⟨bR1.alloc _, bM1.alloc _⟩, hp1⟩, hB1.alloc hB1.size _⟩ ⟨W.heap.size, bM1.lt, cells_al _ _ _, rfl⟩
 case body =>
  rintro l pre x a' W hl ⟨r, hr⟩ ⟨⟨⟨bR1, bM1⟩, hp1⟩, hB1⟩ ⟨Bx, hBx, bX, rfl⟩ hlt
  obtain ⟨⟨d, u, A2, c2⟩, hd65, hC2, hc2, hs2, hk2⟩ := x
  simp only at bX hd65 hC2 hc2 hs2 hk2
  obtain ⟨y0, y1, y2⟩ := bX.cells
  have cR := bR1.cell
  have fR := bR1.frozen
  have cM := bM1.cell
  have fM := bM1.frozen
  have hpl := partsT_len 64 1 v
  have d20 : decide ((20000 : Int) < (pre.length : Int) + 1) = false := decide_eq_false (by omega)
  have d20' : ¬ ((20000 : Int) < (pre.length : Int) + 1) := by omega
  have hR0 : Rdm (w1.alloc (.cells #[.string v.f0, .string v.f1, .slice A v.f2.length c] 24)).heap.size w.heap.size (w.heap.size + 1) (w.heap.size + 1 + 1) W (W.setCell ⟨w.heap.size + 1 + 1, 0, none⟩ (.int .i64 ((pre.length : Int) + 1))) := Rdm.set _ (.inr rfl) (by omega)
  have bM2 := bM1.set (.int .i64 ((pre.length : Int) + 1))
  have bR2 := bR1.other (B' := w.heap.size + 1 + 1) (by omega) (.int .i64 ((pre.length : Int) + 1))
  have bX2 : Bv (W.setCell ⟨w.heap.size + 1 + 1, 0, none⟩ (.int .i64 ((pre.length : Int) + 1))) Bx u A2 c2 := ((grownBy_setCell' W (w.heap.size + 1 + 1) _).block Bx (Array.getElem?_eq_some_iff.1 bX).1 (fun e => by cases e; omega)).trans bX
  have hB2 := hB1.setCell (p := ⟨w.heap.size + 1 + 1, 0, none⟩) (by simp; omega) (.int .i64 ((pre.length : Int) + 1))
  have HC2 := Lib.hid (Kd.C_below hC2 hB2)
  gi_wp2
  clear bX bR1 bM1 cR fR cM fM
  refine ⟨trivial, (CallsIn.inRound l (callsIn_wide.2 (attr51 u A2 c2 _ HC2.out hc2))).mono ?_⟩
  rintro e w3 ⟨rfl, hb3⟩
  have bR3 : Boxed w3 (w.heap.size + 1) 4 (.bool false) := (hb3.block _ bR2.lt).trans bR2
  have bM3 : Boxed w3 (w.heap.size + 1 + 1) 3 (.int .i64 ((pre.length : Int) + 1)) := (hb3.block _ bM2.lt).trans bM2
  have bX3 : Bv w3 Bx u A2 c2 := (hb3.block _ (Array.getElem?_eq_some_iff.1 bX2).1).trans bX2
  have hB3 : Below w.heap.size w w3 := hB2.trans (hb3.mono hB2.size)
  have hR3 := hR0.trans (Rdm.of_below hb3 hB2.size)
  have HR3 := Lib.hid hR3
  clear hR3 hR0 hb3 bR2 bM2 bX2 hB2 y0 y1 y2
  have HC3 := Lib.hid (Kd.C_below hC2 hB3)
  have HG3 := Lib.hid (HG.out.below hB3)
  have HB3 := Lib.hid hB3
  skip
  obtain ⟨y0, y1, y2⟩ := bX3.cells
  have cR := bR3.cell
  have fR := bR3.frozen
  cases hau : attrB u with
  | true =>
   gi_wp2
   all_goals try exact absurd (show some undef = some (Value.bool _) by assumption) (by simp [undef])
   refine ⟨trivial, ?_⟩
   gi_wp2
   refine ⟨HR3.out.1, HR3.out.2, ⟨⟨⟨bR3, ?_⟩, ?_⟩, hB3⟩⟩
   ·
    rw [List.length_append]
    exact bM3
   ·
    intro y hy
    rcases List.mem_append.1 hy with h | h
    ·
     exact hp1 y h
    ·
     rw [List.mem_singleton.1 h]
     simp [partB, prj, hau]
  | false =>
   by_cases hd : d ≤ 64
   ·
    have d64 : decide ((64 : Int) < (d : Int)) = false := decide_eq_false (by omega)
    gi_wp2
    refine ⟨trivial, (CallsIn.inRound l (callsIn_wide.2 (one_any u A2 c2 _ HC3.out hc2 HG3.out hs2 hk2))).mono ?_⟩
    rintro e w4 ⟨rfl, hb4⟩
    have bR4 : Boxed w4 (w.heap.size + 1) 4 (.bool false) := (hb4.block _ bR3.lt).trans bR3
    have bM4 : Boxed w4 (w.heap.size + 1 + 1) 3 (.int .i64 ((pre.length : Int) + 1)) := (hb4.block _ bM3.lt).trans bM3
    have hB4 : Below w.heap.size w w4 := HB3.out.trans (hb4.mono HB3.out.size)
    have HR4 := Lib.hid (HR3.out.trans (Rdm.of_below hb4 HB3.out.size))
    clear hb4 bR3 bM3 bX3 y0 y1 y2 cR fR
    have cR := bR4.cell
    have fR := bR4.frozen
    cases hone : oneT u with
    | true =>
     gi_wp2
     refine ⟨HR4.out.1, HR4.out.2, ⟨⟨⟨bR4, ?_⟩, ?_⟩, hB4⟩⟩
     ·
      rw [List.length_append]
      exact bM4
     ·
      intro y hy
      rcases List.mem_append.1 hy with h | h
      ·
       exact hp1 y h
      ·
       rw [List.mem_singleton.1 h]
       simp [partB, prj, hau, hone, hd]
    | false =>
     gi_wp2
     refine ⟨(HR4.out.trans (Rdm.set _ (.inl rfl) (by omega))).1, ⟨⟨⟨rfl, _, List.mem_append.2 (.inr (List.mem_singleton.2 rfl)), ?_⟩, bR4.set _⟩, hB4.setCell (p := ⟨w.heap.size + 1, 0, none⟩) (by simp) _⟩⟩
     simp [partB, prj, hau, hone]
   ·
    have d64 : decide ((64 : Int) < (d : Int)) = true := decide_eq_true (by omega)
    gi_wp2
    refine ⟨trivial, ?_⟩
    gi_wp2
    refine ⟨(HR3.out.trans (Rdm.set _ (.inl rfl) (by omega))).1, ⟨⟨⟨rfl, _, List.mem_append.2 (.inr (List.mem_singleton.2 rfl)), ?_⟩, bR3.set _⟩, HB3.out.setCell (p := ⟨w.heap.size + 1, 0, none⟩) (by simp) _⟩⟩
    show (attrB u || (decide (d ≤ 64) && oneT u)) = false
    rw [hau, decide_eq_false hd]
    rfl
 case done =>
  rintro D zs W hD hzs ⟨⟨⟨bR1, bM1⟩, hp1⟩, hB1⟩ hK
  have cR := bR1.cell
  have fR := bR1.frozen
  gi_wp2
  have hK' := (KeepsOthers.setCell W ⟨w.heap.size + 1, 0, none⟩ (.bool true)).same D _ hK rfl
  refine ⟨by simp, .inl ⟨_, _, rfl, run_takeDeferred hK', ?_⟩⟩
  have hc5 := cell_kept (World.cell?_setCell_same' W ⟨w.heap.size + 1, 0, none⟩ (.bool true) (by rw [cR]; rfl)) (grownBy_putObj' _ D (.deferred none)) (fun r e => by cases e; exact ⟨_, hK', rfl⟩)
  have hall : (partsT 64 1 v).all partB = true := by
   rw [← hzs, List.all_map, List.all_eq_true]
   exact fun x hx => hp1 x hx
  refine ⟨.bool true, ?_, by rw [hall], (hB1.setCell (p := ⟨w.heap.size + 1, 0, none⟩) (by simp) _).trans (belowK_b (w := w) (Nat.le_refl _) _ D _ _ (by simp at hD; omega) hK' rfl rfl)⟩
  simp [results, Tryz.f19, go_sem, hc5]
 case stop =>
  rintro D cd pre W hD hpre ⟨⟨⟨rfl, x, hx, hpx⟩, bR1⟩, hB1⟩ hK
  have cR := bR1.cell
  gi_wp2
  refine ⟨by simp, .inl ⟨_, _, rfl, run_takeDeferred hK, ?_⟩⟩
  have hc5 := cell_kept cR (grownBy_putObj' _ D (.deferred none)) (fun r e => by cases e; exact ⟨_, hK, rfl⟩)
  have hall : (partsT 64 1 v).all partB = false := by
   rw [← Bool.not_eq_true, List.all_eq_true]
   intro h
   have := h (prj x) (hpre.subset (List.mem_map.2 ⟨x, hx, rfl⟩))
   rw [hpx] at this
   cases this
  refine ⟨.bool false, ?_, by rw [hall], hB1.trans (belowK_b (w := w) (Nat.le_refl _) W D _ _ (by simp at hD; omega) hK rfl rfl)⟩
  simp [results, Tryz.f19, go_sem, hc5]
theorem may_any (v : S24) (A : Option Addr) (c : Nat) (w : World) (hr : k24.C w A v.f2.length v.f2) (hc : v.f2.length ≤ c) (hG : Glob w) (hsm : smallT 65 v) (hcnt : cntL v.f2 ≤ 1000) :
  Calls Tryz.prog 19 #[.agg #[.string v.f0, .string v.f1, .slice A v.f2.length c]] w fun e w' => e = .returned (.bool (mayP v)) ∧ Below w.heap.size w w' := by
 rw [may_parts]
 cases hat : attrB v with
 | true => exact may_no v A c w hr hc hat
 | false => exact may_yes v A c w hr hc hG hsm hcnt hat
end Go.Proofs.YtknfpggiigncpaaGreatDoor.E
