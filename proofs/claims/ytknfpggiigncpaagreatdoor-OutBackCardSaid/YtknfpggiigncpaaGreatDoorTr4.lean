/- tree's close, walked by hand: the walk. -/
import Derived.Test.YtknfpggiigncpaaGreatDoorTr3
set_option linter.unusedVariables false
set_option linter.unusedSimpArgs false
namespace Go.Proofs.YtknfpggiigncpaaGreatDoor.T
open Go.RowKit P E YtknfpggiigncpaaGreatDoorW.PrintLast YtknfpggiigncpaaGreatDoorW.PrintMore
open YtknfpggiigncpaaGreatDoorW.PrintWords
set_option maxHeartbeats 4000000 in
set_option maxRecDepth 100000 in
theorem close_any (w0 wf w : World) (b : Nat) (lab : Nat → Nat) (S : Bst) (gs : List Nat) (sv rv : Value) (name : ByteArray) (h : Rep w w0.heap.size b lab S gs sv rv) (hsz : ∀ nd ∈ S.stack, nd.ks.length ≤ 20000) (hd : gs.length ≤ 64) (hG0 : Glob w0) (hB0 : Bl w0 wf w) :
  Calls Tryz.prog 116 #[.pointer (some ⟨b, 0, none⟩), .string name] w fun e w' => e = .returned (.int .i64 (closeT S name).2) ∧ Bl w0 wf w' ∧ ((closeT S name).2 = 0 → ∃ lab' gs' sv' rv', Rep w' w0.heap.size b lab' (closeT S name).1 gs' sv' rv') := by
 have HR := Lib.hid h
 have hn : w0.heap.size ≤ w.heap.size := hB0.1.size
 have HB0 := Lib.hid hB0
 have HG0 := Lib.hid hG0
 have hb0 := crow 0 sv h.box
 obtain ⟨A, c, rfl⟩ := own_slice h.row
 clear h hG0 hB0
 go_enter Tryz.func116, Tryz.ntmps116
 cases hgl : gs.length with
 | zero =>
  have hst : S.stack = [] := List.length_eq_zero_iff.1 (by rw [← HR.out.len]; exact hgl)
  have hcl : closeT S name = (S, 23) := by unfold closeT; rw [hst]; rfl
  rw [hgl] at hb0
  have hw1 : wrap64 ((0 : Int) - 1) = -1 := by unfold wrap64; decide
  go_wp2_with fail
  go_ret
  exact ⟨by rw [hcl]; rfl, HB0.out, fun h0 => by rw [hcl] at h0; cases h0⟩
 | succ k =>
  obtain ⟨r, c', g, nd, hv, hkc, ht0, hg, hnd, hlast⟩ := HR.out.top k hgl
  rw [hgl] at hv hb0
  cases hv
  obtain ⟨n1, kv, m, hh, hRk, hMp⟩ := HR.out.nodes k g nd hg hnd
  have hc3 := crow 3 (Value.string nd.name) hh
  have hk1 : decide ((k : Int) < (k : Int) + 1) = true := decide_eq_true (by omega)
  have hk2 : (0 : Int) ≤ (k : Int) := by omega
  have hk3 : (k : Int) < (k : Int) + 1 := by omega
  have hk4 : decide ((k : Int) < 0) = false := decide_eq_false (by omega)
  have hwk : wrap64 (k : Int) = (k : Int) := by unfold wrap64; omega
  have hwk1 : wrap64 ((k : Int) + 1) = (k : Int) + 1 := by unfold wrap64; omega
  by_cases hnm : nd.name = name
  ·
   have hnb : (nd.name.toList != name.toList) = false := by rw [hnm]; simp
   have hnb2 : (nd.name.toList == name.toList) = true := by rw [hnm]; simp
   have hf0 : w.frozen? ⟨b, 0, none⟩ = false := frozen_of_row _ _ _ _ _ HR.out.box
   go_upto_region 6 with fail
   have HRk := HR.out
   rw [hgl] at HRk
   have HP := Lib.hid (HRk.pop hgl)
   have hgb : g ≠ b := blk_ne hh HR.out.box (by decide)
   have HN := Lib.hid (NodeAt.but ⟨n1, kv, m, hh, hRk, hMp⟩ HR.out.box (by decide) hgb (But.set w b 0 (.slice (some ⟨r, 0, none⟩) k c)))
   have HB1 := Lib.hid (HB0.out.set HR.out.hb HR.out.box (by decide) 0 (.slice (some ⟨r, 0, none⟩) k c))
   have hlt := last_not HRk.apart hgl hg
   clear hf0 hc3 hb0 ht0 hRk hMp hh HRk
   generalize w.setCell ⟨b, 0, none⟩ (.slice (some ⟨r, 0, none⟩) k c) = w1 at HP HN HB1 ⊢
   obtain ⟨_, kv1, m1, hh1, hR1, hM1⟩ := HN.out
   have c5 := crow 5 (Value.string nd.said) hh1
   have c6 := crow 6 (Value.bool nd.hask) hh1
   have c1 := crow 1 (Value.string nd.tx) hh1
   have f1 : w1.frozen? ⟨g, 1, none⟩ = false := frozen_of_row _ _ _ _ _ hh1
   go_upto_if 49 with fail
   go_cut [] (fun wc => Hid (Rep wc w0.heap.size b lab { S with stack := S.stack.dropLast } gs.dropLast (.slice (some ⟨r, 0, none⟩) k c) rv) ∧ Hid (NodeAt wc w0.heap.size (fun j => lab j = k + 1) g { nd with tx := (valT nd).f1 }) ∧ Hid (Bl w0 wf wc))
   case first =>
    cases hk6 : nd.hask with
    | true =>
     simp only [hk6, Bool.not_true]
     go_wp2_with fail
     go_meet
     case rel =>
      have hv : (valT nd).f1 = nd.tx := by unfold valT; rw [hk6]; rfl
      rw [hv]
      exact ⟨HP, HN, HB1⟩
    | false =>
     simp only [hk6, Bool.not_false]
     go_wp2_with fail
     go_meet
     case rel =>
      have hm := But.set w1 g 1 (.string nd.said)
      have hv : (valT nd).f1 = nd.said := by unfold valT; rw [hk6]; rfl
      refine ⟨HP.out.but hh1 (by decide) (by decide) (fun e => hgb e.symm) hlt hm, ⟨n1, kv1, m1, ?_, R_but hR1 hh1 (by decide) hm, hM1.but hh1 hm⟩, HB1.out.set n1 hh1 (by decide) 1 _⟩
      rw [blk_set hh1, hv]
      rfl
   case rest =>
    obtain ⟨HP2, HN2, HB2⟩ := hcut
    clear c5 c6 c1 f1 hh1 hR1 hM1 HP HN HB1
    obtain ⟨_, kv2, m2, hh2, hR2, hM2⟩ := HN2.out
    obtain ⟨A2, c2x, rfl, l2, hC2⟩ := Kd.R_reads hR2
    have q0 := crow 0 (Value.string nd.nm) hh2
    have q1 := crow 1 (Value.string (valT nd).f1) hh2
    have q2 := crow 2 (Value.slice A2 nd.ks.length c2x) hh2
    cases k with
    | zero =>
     have e0 := frozen_of_row _ _ 1 _ _ HP2.out.box
     have e1 := frozen_of_row _ _ 2 _ _ HP2.out.box
     have e2 := frozen_of_row _ _ 3 _ _ HP2.out.box
     have e5 := frozen_of_row _ _ 5 _ _ HP2.out.box
     have d0 := crow 1 (Value.string S.root.f0) HP2.out.box
     have d1 := crow 2 (Value.string S.root.f1) HP2.out.box
     have d2 := crow 3 rv HP2.out.box
     have d5 := crow 5 (Value.bool S.done) HP2.out.box
     have HPo := HP2.out
     have hsg : gs.dropLast = [] := List.length_eq_zero_iff.1 (by rw [List.length_dropLast]; omega)
     have hss : S.stack.dropLast = [] := List.length_eq_zero_iff.1 (by rw [List.length_dropLast, ← HR.out.len]; omega)
     have hclo : closeT S name = ({ S with stack := [], root := valT nd, done := true }, 0) := by
      unfold closeT
      rw [hlast]
      simp only []
      rw [if_pos hnm, hss]
      rfl
     have HC := Lib.hid hclo
     clear hclo
     go_wp2_with fail
     go_ret
     have hw3 : wc.heap[b]? = some (.cells #[.slice (some ⟨r, 0, none⟩) 0 c, .string S.root.f0, .string S.root.f1, rv, .string S.space, .bool S.done, .int .i64 (S.many : Int)] 113 (0, 0)) := HPo.box
     have hb1 : (wc.setCell ⟨b, 1, none⟩ (.string nd.nm)).heap[b]? = some (.cells #[.slice (some ⟨r, 0, none⟩) 0 c, .string nd.nm, .string S.root.f1, rv, .string S.space, .bool S.done, .int .i64 (S.many : Int)] 113 (0, 0)) := by rw [blk_set hw3]; rfl
     have hb2 : ((wc.setCell ⟨b, 1, none⟩ (.string nd.nm)).setCell ⟨b, 2, none⟩ (.string (valT nd).f1)).heap[b]? = some (.cells #[.slice (some ⟨r, 0, none⟩) 0 c, .string nd.nm, .string (valT nd).f1, rv, .string S.space, .bool S.done, .int .i64 (S.many : Int)] 113 (0, 0)) := by rw [blk_set hb1]; rfl
     have hb3 : (((wc.setCell ⟨b, 1, none⟩ (.string nd.nm)).setCell ⟨b, 2, none⟩ (.string (valT nd).f1)).setCell ⟨b, 3, none⟩ (.slice A2 nd.ks.length c2x)).heap[b]? = some (.cells #[.slice (some ⟨r, 0, none⟩) 0 c, .string nd.nm, .string (valT nd).f1, .slice A2 nd.ks.length c2x, .string S.space, .bool S.done, .int .i64 (S.many : Int)] 113 (0, 0)) := by rw [blk_set hb2]; rfl
     have hb4 : ((((wc.setCell ⟨b, 1, none⟩ (.string nd.nm)).setCell ⟨b, 2, none⟩ (.string (valT nd).f1)).setCell ⟨b, 3, none⟩ (.slice A2 nd.ks.length c2x)).setCell ⟨b, 5, none⟩ (.bool true)).heap[b]? = some (.cells #[.slice (some ⟨r, 0, none⟩) 0 c, .string nd.nm, .string (valT nd).f1, .slice A2 nd.ks.length c2x, .string S.space, .bool true, .int .i64 (S.many : Int)] 113 (0, 0)) := by rw [blk_set hb3]; rfl
     have hm : But wc ((((wc.setCell ⟨b, 1, none⟩ (.string nd.nm)).setCell ⟨b, 2, none⟩ (.string (valT nd).f1)).setCell ⟨b, 3, none⟩ (.slice A2 nd.ks.length c2x)).setCell ⟨b, 5, none⟩ (.bool true)) b := by
      intro q _ hq
      rw [Below.heap_setCell _ ⟨b, 5, none⟩ _ q hq, Below.heap_setCell _ ⟨b, 3, none⟩ _ q hq, Below.heap_setCell _ ⟨b, 2, none⟩ _ q hq, Below.heap_setCell _ ⟨b, 1, none⟩ _ q hq]
     have hwb : w0.heap.size ≤ b := HPo.hb
     rw [HC.out]
     refine ⟨rfl, (((HB2.out.set hwb hw3 (by decide) 1 _).set hwb hb1 (by decide) 2 _).set hwb hb2 (by decide) 3 _).set hwb hb3 (by decide) 5 _, fun _ => ⟨fun q => if lab q = 1 then 0 else 1, [], _, _, hwb, hb4, ?_, rfl, List.nodup_nil, fun i g' nd' q _ => by simp at q, ?_⟩⟩
     ·
      have := own_but HPo.row hw3 (by decide) hm
      rw [hsg] at this
      exact this
     ·
      exact Kd.R_mono (R_but hR2 hw3 (by decide) hm) (fun q hq => by show (if lab q = 1 then 0 else 1) = 0; rw [if_pos hq])
    | succ j =>
     have HPo := HP2.out
     have hgd : gs.dropLast.length = j + 1 := by rw [List.length_dropLast]; omega
     obtain ⟨r', c3, gu, up, hv', hkc', ht1, hgu, hup, hulast⟩ := HPo.top j hgd
     simp only [Value.slice.injEq, Option.some.injEq, Addr.mk.injEq, true_and, and_true] at hv'
     obtain ⟨rfl, rfl⟩ := hv'
     obtain ⟨n2, kvu, mu, hhu, hRu, hMu⟩ := HPo.nodes j gu up hgu hup
     obtain ⟨Au, cu, rfl, lu, hCu⟩ := Kd.R_reads hRu
     have hb0n := crow 0 (Value.slice (some ⟨r, 0, none⟩) (j + 1) c) HPo.box
     have p2 := crow 2 (Value.slice Au up.ks.length cu) hhu
     have hj1 : ¬ (((j + 1 : Nat) : Int) = 0) := by omega
     have hjz : (((j + 1 : Nat) : Int) == 0) = false := by simp; omega
     have hwj : wrap64 (((j + 1 : Nat) : Int) - 1) = (j : Int) := by unfold wrap64; omega
     have hwj2 : wrap64 ((j : Int) + 1 - 1) = (j : Int) := by unfold wrap64; omega
     have hj2 : (0 : Int) ≤ (j : Int) := by omega
     have hj3 : (j : Int) < (j : Int) + 1 := by omega
     go_wp2_with fail
     go_region
     ·
      have hbd := below_drew1 (below_drew1 (below_alloc (Below.refl wc.heap.size wc) (.cells #[.bool false] 4)))
      have HQ := Lib.hid (HPo.below hbd)
      have hsz0 : w0.heap.size ≤ wc.heap.size := HB2.out.1.size
      have HBd := Lib.hid (HB2.out.step hbd)
      have HRu := Lib.hid (Kd.R_below hRu hbd)
      have HR2 := Lib.hid (Kd.R_below hR2 hbd)
      have hhud := (hbd.block gu (Array.getElem?_eq_some_iff.1 hhu).1).trans hhu
      have hhd := (hbd.block g (Array.getElem?_eq_some_iff.1 hh2).1).trans hh2
      have ht1d := (hbd.cell (World.block_lt_of_cell? wc _ ht1)).trans ht1
      have hsz1 : w0.heap.size ≤ (wc.alloc (.cells #[.bool false] 4)).drew.drew.heap.size := Nat.le_trans hsz0 hbd.size
      clear q0 q1 q2 hb0n p2 ht1 hhu hh2 hRu hR2 hCu hC2 HPo HP2 HN2 hbd HB2 hMu hM2
      go_wp2_with fail
      have hul : up.ks.length ≤ 20000 := hsz up ((List.dropLast_sublist S.stack).subset (List.mem_of_getElem? hup))
      have hbnd : (up.ks.length + 1) * 56 ≤ 140737488355328 := Nat.le_trans (Nat.mul_le_mul_right 56 (Nat.succ_le_succ hul)) (by decide)
      have hclo : closeT S name = ({ S with stack := S.stack.dropLast.set j { up with ks := up.ks ++ [valT nd] } }, 0) := by
       unfold closeT
       rw [hlast]
       simp only []
       rw [if_pos hnm, hulast]
       simp only []
       rw [show S.stack.length - 2 = j by have := HR.out.len; omega]
      have HC := Lib.hid hclo
      clear hclo
      have hwj3 : wrap64 (j : Int) = (j : Int) := by unfold wrap64; omega
      have hwj4 : IntKind.i64.wrap (j : Int) = (j : Int) := by simp only [i64_w]; exact hwj3
      refine start_ (n := 30) (S := fun w' => w'.cell? ⟨b, 0, none⟩ = some (.slice (some ⟨r, 0, none⟩) (j + 1) c) ∧ w'.cell? ⟨r, j, none⟩ = some (.pointer (some ⟨gu, 0, none⟩)) ∧ w'.cell? ⟨gu, 2, none⟩ = some (.slice Au up.ks.length cu) ∧ w'.cell? ⟨g, 0, none⟩ = some (.string nd.nm) ∧ w'.cell? ⟨g, 1, none⟩ = some (.string (valT nd).f1) ∧ w'.cell? ⟨g, 2, none⟩ = some (.slice A2 nd.ks.length c2x)) (ds := [29]) (ms5 0 30) (by kernel_rfl) rfl rfl ⟨(cell_of_row _ _ 0 _ _ _ HQ.out.box).trans rfl, ht1d, (cell_of_row _ _ 2 _ _ _ hhud).trans rfl, (cell_of_row _ _ 0 _ _ _ hhd).trans rfl, (cell_of_row _ _ 1 _ _ _ hhd).trans rfl, (cell_of_row _ _ 2 _ _ _ hhd).trans rfl⟩ (fun hHeld => ?_)
      refine with_tabW cl14tab cl14bits (fun HT_ HW_ => ?_)
      generalize (wc.alloc (.cells #[.bool false] 4)).drew.drew = w6 at HQ HBd HRu HR2 hhud hhd ht1d hsz1 hHeld ⊢
      refine pure_ (i := 0) (N := some 103) (v := ?_) (a' := ?_) (ms5 1 29) rfl rfl (any_of HT_.out (by kernel_rfl)) (fun _ _ _ h => h) (Or.inl ⟨by rfl, ?_⟩) ?_ ?_
      rotate_left
      ·
       intro w'
       go_simp
       with_reducible rfl
      rotate_left
      ·
       go_simp
       rfl
      refine pure_ (i := 1) (N := some 104) (v := ?_) (a' := ?_) (ms5 2 28) rfl rfl (any_of HT_.out (by kernel_rfl)) (fun _ _ _ h => h) (Or.inl ⟨by rfl, ?_⟩) ?_ ?_
      rotate_left
      ·
       intro w'
       go_simp
       with_reducible rfl
      rotate_left
      ·
       go_simp
       rfl
      refine pure_ (i := 2) (N := some 105) (v := ?_) (a' := ?_) (ms5 3 27) rfl rfl (any_of HT_.out (by kernel_rfl)) (fun _ _ _ h => h) (Or.inl ⟨by rfl, ?_⟩) ?_ ?_
      rotate_left
      ·
       intro w'
       go_simp
       with_reducible rfl
      rotate_left
      ·
       go_simp
       rfl
      refine take_ (i := 3) (N := some 106) (v := ?_) (a' := ?_) (ms5 4 26) rfl rfl (take_ofW HT_.out HW_.out (by kernel_rfl)) (fun _ _ _ h => h) (Or.inl ⟨by rfl, ?_⟩) hHeld ?_ ?_
      rotate_left
      ·
       rintro w' ⟨s0, s1, s2, s3, s4, s5⟩
       go_simp
       with_reducible rfl
      rotate_left
      ·
       go_simp
       rfl
      refine pure_ (i := 4) (N := some 107) (v := ?_) (a' := ?_) (ms5 5 25) rfl rfl (any_of HT_.out (by kernel_rfl)) (fun _ _ _ h => h) (Or.inl ⟨by rfl, ?_⟩) ?_ ?_
      rotate_left
      ·
       intro w'
       go_simp
       with_reducible rfl
      rotate_left
      ·
       go_simp
       rfl
      refine pure_ (i := 5) (N := some 108) (v := ?_) (a' := ?_) (ms5 6 24) rfl rfl (any_of HT_.out (by kernel_rfl)) (fun _ _ _ h => h) (Or.inl ⟨by rfl, ?_⟩) ?_ ?_
      rotate_left
      ·
       intro w'
       go_simp
       with_reducible rfl
      rotate_left
      ·
       go_simp
       rfl
      refine pure_ (i := 6) (N := some 109) (v := ?_) (a' := ?_) (ms5 7 23) rfl rfl (any_of HT_.out (by kernel_rfl)) (fun _ _ _ h => h) (Or.inl ⟨by rfl, ?_⟩) ?_ ?_
      rotate_left
      ·
       intro w'
       go_simp
       with_reducible rfl
      rotate_left
      ·
       go_simp
       rfl
      refine take_ (i := 7) (N := some 110) (v := ?_) (a' := ?_) (ms5 8 22) rfl rfl (take_ofW HT_.out HW_.out (by kernel_rfl)) (fun _ _ _ h => h) (Or.inl ⟨by rfl, ?_⟩) hHeld ?_ ?_
      rotate_left
      ·
       rintro w' ⟨s0, s1, s2, s3, s4, s5⟩
       go_simp
       with_reducible rfl
      rotate_left
      ·
       go_simp
       rfl
      refine pure_ (i := 8) (N := some 111) (v := ?_) (a' := ?_) (ms5 9 21) rfl rfl (any_of HT_.out (by kernel_rfl)) (fun _ _ _ h => h) (Or.inl ⟨by rfl, ?_⟩) ?_ ?_
      rotate_left
      ·
       intro w'
       go_simp
       with_reducible rfl
      rotate_left
      ·
       go_simp
       rfl
      refine pure_ (i := 9) (N := some 112) (v := ?_) (a' := ?_) (ms5 10 20) rfl rfl (any_of HT_.out (by kernel_rfl)) (fun _ _ _ h => h) (Or.inl ⟨by rfl, ?_⟩) ?_ ?_
      rotate_left
      ·
       intro w'
       go_simp
       with_reducible rfl
      rotate_left
      ·
       go_simp
       rfl
      refine pure_ (i := 10) (N := some 113) (v := ?_) (a' := ?_) (ms5 11 19) rfl rfl (any_of HT_.out (by kernel_rfl)) (fun _ _ _ h => h) (Or.inl ⟨by rfl, ?_⟩) ?_ ?_
      rotate_left
      ·
       intro w'
       go_simp
       with_reducible rfl
      rotate_left
      ·
       go_simp
       rfl
      refine take_ (i := 11) (N := some 114) (v := ?_) (a' := ?_) (ms5 12 18) rfl rfl (take_ofW HT_.out HW_.out (by kernel_rfl)) (fun _ _ _ h => h) (Or.inl ⟨by rfl, ?_⟩) hHeld ?_ ?_
      rotate_left
      ·
       rintro w' ⟨s0, s1, s2, s3, s4, s5⟩
       go_simp
       with_reducible rfl
      rotate_left
      ·
       go_simp
       rfl
      refine pure_ (i := 12) (N := some 115) (v := ?_) (a' := ?_) (ms5 13 17) rfl rfl (any_of HT_.out (by kernel_rfl)) (fun _ _ _ h => h) (Or.inl ⟨by rfl, ?_⟩) ?_ ?_
      rotate_left
      ·
       intro w'
       go_simp
       with_reducible rfl
      rotate_left
      ·
       go_simp
       rfl
      refine pure_ (i := 13) (N := some 116) (v := ?_) (a' := ?_) (ms5 14 16) rfl rfl (any_of HT_.out (by kernel_rfl)) (fun _ _ _ h => h) (Or.inl ⟨by rfl, ?_⟩) ?_ ?_
      rotate_left
      ·
       intro w'
       go_simp
       with_reducible rfl
      rotate_left
      ·
       go_simp
       rfl
      refine pure_ (i := 14) (N := some 117) (v := ?_) (a' := ?_) (ms5 15 15) rfl rfl (any_of HT_.out (by kernel_rfl)) (fun _ _ _ h => h) (Or.inl ⟨by rfl, ?_⟩) ?_ ?_
      rotate_left
      ·
       intro w'
       go_simp
       with_reducible rfl
      rotate_left
      ·
       go_simp
       rfl
      refine take_ (i := 15) (N := some 118) (v := ?_) (a' := ?_) (ms5 16 14) rfl rfl (take_ofW HT_.out HW_.out (by kernel_rfl)) (fun _ _ _ h => h) (Or.inl ⟨by rfl, ?_⟩) hHeld ?_ ?_
      rotate_left
      ·
       rintro w' ⟨s0, s1, s2, s3, s4, s5⟩
       go_simp
       with_reducible rfl
      rotate_left
      ·
       go_simp
       rfl
      refine pure_ (i := 16) (N := some 119) (v := ?_) (a' := ?_) (ms5 17 13) rfl rfl (any_of HT_.out (by kernel_rfl)) (fun _ _ _ h => h) (Or.inl ⟨by rfl, ?_⟩) ?_ ?_
      rotate_left
      ·
       intro w'
       go_simp
       with_reducible rfl
      rotate_left
      ·
       go_simp
       rfl
      refine pure_ (i := 17) (N := some 120) (v := ?_) (a' := ?_) (ms5 18 12) rfl rfl (any_of HT_.out (by kernel_rfl)) (fun _ _ _ h => h) (Or.inl ⟨by rfl, ?_⟩) ?_ ?_
      rotate_left
      ·
       intro w'
       go_simp
       with_reducible rfl
      rotate_left
      ·
       go_simp
       rfl
      refine pure_ (i := 18) (N := some 121) (v := ?_) (a' := ?_) (ms5 19 11) rfl rfl (any_of HT_.out (by kernel_rfl)) (fun _ _ _ h => h) (Or.inl ⟨by rfl, ?_⟩) ?_ ?_
      rotate_left
      ·
       intro w'
       go_simp
       with_reducible rfl
      rotate_left
      ·
       go_simp
       rfl
      refine take_ (i := 19) (N := some 122) (v := ?_) (a' := ?_) (ms5 20 10) rfl rfl (take_ofW HT_.out HW_.out (by kernel_rfl)) (fun _ _ _ h => h) (Or.inl ⟨by rfl, ?_⟩) hHeld ?_ ?_
      rotate_left
      ·
       rintro w' ⟨s0, s1, s2, s3, s4, s5⟩
       go_simp
       with_reducible rfl
      rotate_left
      ·
       go_simp
       rfl
      refine pure_ (i := 20) (N := some 123) (v := ?_) (a' := ?_) (ms5 21 9) rfl rfl (any_of HT_.out (by kernel_rfl)) (fun _ _ _ h => h) (Or.inl ⟨by rfl, ?_⟩) ?_ ?_
      rotate_left
      ·
       intro w'
       go_simp
       with_reducible rfl
      rotate_left
      ·
       go_simp
       rfl
      refine pure_ (i := 21) (N := some 124) (v := ?_) (a' := ?_) (ms5 22 8) rfl rfl (any_of HT_.out (by kernel_rfl)) (fun _ _ _ h => h) (Or.inl ⟨by rfl, ?_⟩) ?_ ?_
      rotate_left
      ·
       intro w'
       go_simp
       with_reducible rfl
      rotate_left
      ·
       go_simp
       rfl
      refine pure_ (i := 22) (N := some 125) (v := ?_) (a' := ?_) (ms5 23 7) rfl rfl (any_of HT_.out (by kernel_rfl)) (fun _ _ _ h => h) (Or.inl ⟨by rfl, ?_⟩) ?_ ?_
      rotate_left
      ·
       intro w'
       go_simp
       with_reducible rfl
      rotate_left
      ·
       go_simp
       rfl
      refine take_ (i := 23) (N := some 126) (v := ?_) (a' := ?_) (ms5 24 6) rfl rfl (take_ofW HT_.out HW_.out (by kernel_rfl)) (fun _ _ _ h => h) (Or.inl ⟨by rfl, ?_⟩) hHeld ?_ ?_
      rotate_left
      ·
       rintro w' ⟨s0, s1, s2, s3, s4, s5⟩
       go_simp
       with_reducible rfl
      rotate_left
      ·
       go_simp
       rfl
      refine one_ (i := 24) (N := some 127) (ms5 25 5) rfl rfl (one_of HT_.out (by kernel_rfl)) (by decide) (fun K hK => ?_)
      refine value_ (w1 := ?_) (v := ?_) (by rfl) rfl ?_ ?_
      rotate_left 2
      ·
       go_simp
       constructor
       ·
        rfl
       ·
        rfl
      have hba := below_alloc (Below.refl w6.heap.size w6)
      refine hK.out _ _ ⟨cellB (hba _) hHeld.1, cellB (hba _) hHeld.2.1, cellB (hba _) hHeld.2.2.1, cellB (hba _) hHeld.2.2.2.1, cellB (hba _) hHeld.2.2.2.2.1, cellB (hba _) hHeld.2.2.2.2.2⟩ (fun _ => ?_)
      clear hK K hba
      refine norm_ (a' := ?_) ?_ ?_
      rotate_left
      ·
       show Act.put _ (some 127) _ = _
       go_simp
       rfl
      refine one_ (i := 25) (N := some 128) (ms5 26 4) rfl rfl (one_of HT_.out (by kernel_rfl)) (by decide) (fun K hK => ?_)
      refine Kd.R_append_step k24 (w0 := w0) (W := w6) w0.heap.size (by rfl) (.tmp 122) (.tmp 127) 22 24 (.agg #[(.string ⟨#[]⟩), (.string ⟨#[]⟩), (.slice none 0 0)]) 56 rfl Tryz.underlying22 info24 rfl (by decide) (by decide) (.slice Au up.ks.length cu) up.ks (valT nd) [.string nd.nm, .string (valT nd).f1, .slice A2 nd.ks.length c2x] (fun k => lab k = j + 1 ∨ lab k = j + 2 ∨ w6.heap.size ≤ k) (fun k => lab k = j + 2) rfl rfl (k24_mkM _ _ _ (valT nd) HR2.out) (fun k hk => ⟨.inr (.inl hk), fun e => absurd e (Kd.R_away HRu.out (fun q hq e2 => by subst e2; exact Nat.ne_of_lt (Nat.lt_succ_self (j + 1)) ((show lab q = j + 1 from hq).symm.trans hk)))⟩) (fun k hk => .inr (.inr hk)) (Kd.R_mono HRu.out (fun k hk => .inl hk)) HBd.out.1 hsz1 hbnd ?_
      intro v5 w5 hA5 hb5 hg5 hat5
      obtain ⟨A5, c5, rfl⟩ := Kd.R_slice hA5
      rw [show (up.ks ++ [(valT nd)]).length = up.ks.length + 1 by simp] at hA5 hat5
      have hne : ∀ (x t : Nat) (cells : Array Value), w6.heap[x]? = some (.cells cells t (0, 0)) → t ≠ 24 → some x ≠ (Value.slice Au up.ks.length cu).ownBlock := fun x t cells hx ht => own_ne (Kd.R_own HRu.out).choose_spec hx (fun e2 => ht e2.symm)
      have HK5 := Lib.hid (K44.grown HBd.out.2 hg5 (fun k c e h => hne k 44 c h (by decide) e.symm))
      have hh5 := blk_grown hhud hg5 (hne gu _ _ hhud (by decide))
      have hhg5 := blk_grown hhd hg5 (hne g _ _ hhd (by decide))
      have hhb5 := blk_grown HQ.out.box hg5 (hne b _ _ HQ.out.box (by decide))
      obtain ⟨rcs, hrc⟩ := own_cells HQ.out.row r rfl
      have hr5 := cellG hg5 ht1d (hne r _ _ hrc (by decide))
      refine hK.out _ _ ⟨(cell_of_row _ _ 0 _ _ _ hhb5).trans rfl, hr5, (cell_of_row _ _ 2 _ _ _ hh5).trans rfl, (cell_of_row _ _ 0 _ _ _ hhg5).trans rfl, (cell_of_row _ _ 1 _ _ _ hhg5).trans rfl, (cell_of_row _ _ 2 _ _ _ hhg5).trans rfl⟩ (fun _ => ?_)
      clear hK K
      refine norm_ (a' := ?_) ?_ ?_
      rotate_left
      ·
       show Act.put _ (some 128) _ = _
       go_simp
       rfl
      refine pure_ (i := 26) (N := some 129) (v := ?_) (a' := ?_) (ms5 27 3) rfl rfl (any_of HT_.out (by kernel_rfl)) (fun _ _ _ h => h) (Or.inl ⟨by rfl, ?_⟩) ?_ ?_
      rotate_left
      ·
       intro w'
       go_simp
       with_reducible rfl
      rotate_left
      ·
       go_simp
       rfl
      refine pure_ (i := 27) (N := some 130) (v := ?_) (a' := ?_) (ms5 28 2) rfl rfl (any_of HT_.out (by kernel_rfl)) (fun _ _ _ h => h) (Or.inl ⟨by rfl, ?_⟩) ?_ ?_
      rotate_left
      ·
       intro w'
       go_simp
       with_reducible rfl
      rotate_left
      ·
       go_simp
       rfl
      refine pure_ (i := 28) (N := some 131) (v := ?_) (a' := ?_) (ms5 29 1) rfl rfl (any_of HT_.out (by kernel_rfl)) (fun _ _ _ h => h) (Or.inl ⟨by rfl, ?_⟩) ?_ ?_
      rotate_left
      ·
       intro w'
       go_simp
       with_reducible rfl
      rotate_left
      ·
       go_simp
       rfl
      refine last_ (i := 29) (N := none) (ms5 30 0) rfl rfl (one_of HT_.out (by kernel_rfl)) (by decide) (fun K hK => ?_)
      have y2 := crow 2 (Value.slice Au up.ks.length cu) hh5
      have fy2 := frozen_of_row _ gu 2 _ _ hh5
      refine skip_ (w1 := ?_) (by rfl) rfl ?_ ?_
      rotate_left
      ·
       go_simp
       rfl
      refine hK.out _ _ ?_
      clear hK K
      refine done_ (done_of HT_.out (by kernel_rfl)) ?_
      go_wp2_with fail
      go_ret
      have hfin := HQ.out.mend (W' := w5.setCell ⟨gu, 2, none⟩ (.slice A5 (up.ks.length + 1) c5)) j gu up hgd hgu hup hhud HRu.out (fun k hk h1 h2 => (Below.heap_setCell w5 ⟨gu, 2, none⟩ _ k h2).trans (hg5.block k hk h1)) (up.ks ++ [valT nd]) _ ((blk_set hh5 2 _).trans rfl) (R_but hA5 hh5 (by decide) (But.set w5 gu 2 _))
      rw [HC.out]
      exact ⟨rfl, Bl.set ⟨hb5, HK5.out⟩ n2 hh5 (by decide) 2 _, fun _ => ⟨_, _, _, _, hfin⟩⟩
     ·
      have hbd := below_drew1 (below_drew1 (below_alloc (Below.refl wc.heap.size wc) (.cells #[.bool true] 4)))
      have HQ := Lib.hid (HPo.below hbd)
      have hsz0 : w0.heap.size ≤ wc.heap.size := HB2.out.1.size
      have HBd := Lib.hid (HB2.out.step hbd)
      have HRu := Lib.hid (Kd.R_below hRu hbd)
      have HR2 := Lib.hid (Kd.R_below hR2 hbd)
      have hhud := (hbd.block gu (Array.getElem?_eq_some_iff.1 hhu).1).trans hhu
      have hhd := (hbd.block g (Array.getElem?_eq_some_iff.1 hh2).1).trans hh2
      have ht1d := (hbd.cell (World.block_lt_of_cell? wc _ ht1)).trans ht1
      have hsz1 : w0.heap.size ≤ (wc.alloc (.cells #[.bool true] 4)).drew.drew.heap.size := Nat.le_trans hsz0 hbd.size
      clear q0 q1 q2 hb0n p2 ht1 hhu hh2 hRu hR2 hCu hC2 HPo HP2 HN2 hbd HB2 hMu hM2
      go_wp2_with fail
      have hul : up.ks.length ≤ 20000 := hsz up ((List.dropLast_sublist S.stack).subset (List.mem_of_getElem? hup))
      have hbnd : (up.ks.length + 1) * 56 ≤ 140737488355328 := Nat.le_trans (Nat.mul_le_mul_right 56 (Nat.succ_le_succ hul)) (by decide)
      have hclo : closeT S name = ({ S with stack := S.stack.dropLast.set j { up with ks := up.ks ++ [valT nd] } }, 0) := by
       unfold closeT
       rw [hlast]
       simp only []
       rw [if_pos hnm, hulast]
       simp only []
       rw [show S.stack.length - 2 = j by have := HR.out.len; omega]
      have HC := Lib.hid hclo
      clear hclo
      have hwj3 : wrap64 (j : Int) = (j : Int) := by unfold wrap64; omega
      have hwj4 : IntKind.i64.wrap (j : Int) = (j : Int) := by simp only [i64_w]; exact hwj3
      refine start_ (n := 31) (S := fun w' => w'.cell? ⟨b, 0, none⟩ = some (.slice (some ⟨r, 0, none⟩) (j + 1) c) ∧ w'.cell? ⟨r, j, none⟩ = some (.pointer (some ⟨gu, 0, none⟩)) ∧ w'.cell? ⟨gu, 2, none⟩ = some (.slice Au up.ks.length cu) ∧ w'.cell? ⟨g, 0, none⟩ = some (.string nd.nm) ∧ w'.cell? ⟨g, 1, none⟩ = some (.string (valT nd).f1) ∧ w'.cell? ⟨g, 2, none⟩ = some (.slice A2 nd.ks.length c2x)) (ds := [30]) (ms5 0 31) (by kernel_rfl) rfl rfl ⟨(cell_of_row _ _ 0 _ _ _ HQ.out.box).trans rfl, ht1d, (cell_of_row _ _ 2 _ _ _ hhud).trans rfl, (cell_of_row _ _ 0 _ _ _ hhd).trans rfl, (cell_of_row _ _ 1 _ _ _ hhd).trans rfl, (cell_of_row _ _ 2 _ _ _ hhd).trans rfl⟩ (fun hHeld => ?_)
      refine with_tabW cl12tab cl12bits (fun HT_ HW_ => ?_)
      generalize (wc.alloc (.cells #[.bool true] 4)).drew.drew = w6 at HQ HBd HRu HR2 hhud hhd ht1d hsz1 hHeld ⊢
      refine pure_ (i := 0) (N := some 72) (v := ?_) (a' := ?_) (ms5 1 30) rfl rfl (any_of HT_.out (by kernel_rfl)) (fun _ _ _ h => h) (Or.inl ⟨by rfl, ?_⟩) ?_ ?_
      rotate_left
      ·
       intro w'
       go_simp
       with_reducible rfl
      rotate_left
      ·
       go_simp
       rfl
      refine pure_ (i := 1) (N := some 73) (v := ?_) (a' := ?_) (ms5 2 29) rfl rfl (any_of HT_.out (by kernel_rfl)) (fun _ _ _ h => h) (Or.inl ⟨by rfl, ?_⟩) ?_ ?_
      rotate_left
      ·
       intro w'
       go_simp
       with_reducible rfl
      rotate_left
      ·
       go_simp
       rfl
      refine pure_ (i := 2) (N := some 74) (v := ?_) (a' := ?_) (ms5 3 28) rfl rfl (any_of HT_.out (by kernel_rfl)) (fun _ _ _ h => h) (Or.inl ⟨by rfl, ?_⟩) ?_ ?_
      rotate_left
      ·
       intro w'
       go_simp
       with_reducible rfl
      rotate_left
      ·
       go_simp
       rfl
      refine take_ (i := 3) (N := some 75) (v := ?_) (a' := ?_) (ms5 4 27) rfl rfl (take_ofW HT_.out HW_.out (by kernel_rfl)) (fun _ _ _ h => h) (Or.inl ⟨by rfl, ?_⟩) hHeld ?_ ?_
      rotate_left
      ·
       rintro w' ⟨s0, s1, s2, s3, s4, s5⟩
       go_simp
       with_reducible rfl
      rotate_left
      ·
       go_simp
       rfl
      refine pure_ (i := 4) (N := some 76) (v := ?_) (a' := ?_) (ms5 5 26) rfl rfl (any_of HT_.out (by kernel_rfl)) (fun _ _ _ h => h) (Or.inl ⟨by rfl, ?_⟩) ?_ ?_
      rotate_left
      ·
       intro w'
       go_simp
       with_reducible rfl
      rotate_left
      ·
       go_simp
       rfl
      refine pure_ (i := 5) (N := some 77) (v := ?_) (a' := ?_) (ms5 6 25) rfl rfl (any_of HT_.out (by kernel_rfl)) (fun _ _ _ h => h) (Or.inl ⟨by rfl, ?_⟩) ?_ ?_
      rotate_left
      ·
       intro w'
       go_simp
       with_reducible rfl
      rotate_left
      ·
       go_simp
       rfl
      refine pure_ (i := 6) (N := some 78) (v := ?_) (a' := ?_) (ms5 7 24) rfl rfl (any_of HT_.out (by kernel_rfl)) (fun _ _ _ h => h) (Or.inl ⟨by rfl, ?_⟩) ?_ ?_
      rotate_left
      ·
       intro w'
       go_simp
       with_reducible rfl
      rotate_left
      ·
       go_simp
       rfl
      refine take_ (i := 7) (N := some 79) (v := ?_) (a' := ?_) (ms5 8 23) rfl rfl (take_ofW HT_.out HW_.out (by kernel_rfl)) (fun _ _ _ h => h) (Or.inl ⟨by rfl, ?_⟩) hHeld ?_ ?_
      rotate_left
      ·
       rintro w' ⟨s0, s1, s2, s3, s4, s5⟩
       go_simp
       with_reducible rfl
      rotate_left
      ·
       go_simp
       rfl
      refine pure_ (i := 8) (N := some 80) (v := ?_) (a' := ?_) (ms5 9 22) rfl rfl (any_of HT_.out (by kernel_rfl)) (fun _ _ _ h => h) (Or.inl ⟨by rfl, ?_⟩) ?_ ?_
      rotate_left
      ·
       intro w'
       go_simp
       with_reducible rfl
      rotate_left
      ·
       go_simp
       rfl
      refine pure_ (i := 9) (N := some 81) (v := ?_) (a' := ?_) (ms5 10 21) rfl rfl (any_of HT_.out (by kernel_rfl)) (fun _ _ _ h => h) (Or.inl ⟨by rfl, ?_⟩) ?_ ?_
      rotate_left
      ·
       intro w'
       go_simp
       with_reducible rfl
      rotate_left
      ·
       go_simp
       rfl
      refine pure_ (i := 10) (N := some 82) (v := ?_) (a' := ?_) (ms5 11 20) rfl rfl (any_of HT_.out (by kernel_rfl)) (fun _ _ _ h => h) (Or.inl ⟨by rfl, ?_⟩) ?_ ?_
      rotate_left
      ·
       intro w'
       go_simp
       with_reducible rfl
      rotate_left
      ·
       go_simp
       rfl
      refine take_ (i := 11) (N := some 83) (v := ?_) (a' := ?_) (ms5 12 19) rfl rfl (take_ofW HT_.out HW_.out (by kernel_rfl)) (fun _ _ _ h => h) (Or.inl ⟨by rfl, ?_⟩) hHeld ?_ ?_
      rotate_left
      ·
       rintro w' ⟨s0, s1, s2, s3, s4, s5⟩
       go_simp
       with_reducible rfl
      rotate_left
      ·
       go_simp
       rfl
      refine pure_ (i := 12) (N := some 84) (v := ?_) (a' := ?_) (ms5 13 18) rfl rfl (any_of HT_.out (by kernel_rfl)) (fun _ _ _ h => h) (Or.inl ⟨by rfl, ?_⟩) ?_ ?_
      rotate_left
      ·
       intro w'
       go_simp
       with_reducible rfl
      rotate_left
      ·
       go_simp
       rfl
      refine pure_ (i := 13) (N := some 85) (v := ?_) (a' := ?_) (ms5 14 17) rfl rfl (any_of HT_.out (by kernel_rfl)) (fun _ _ _ h => h) (Or.inl ⟨by rfl, ?_⟩) ?_ ?_
      rotate_left
      ·
       intro w'
       go_simp
       with_reducible rfl
      rotate_left
      ·
       go_simp
       rfl
      refine pure_ (i := 14) (N := some 86) (v := ?_) (a' := ?_) (ms5 15 16) rfl rfl (any_of HT_.out (by kernel_rfl)) (fun _ _ _ h => h) (Or.inl ⟨by rfl, ?_⟩) ?_ ?_
      rotate_left
      ·
       intro w'
       go_simp
       with_reducible rfl
      rotate_left
      ·
       go_simp
       rfl
      refine take_ (i := 15) (N := some 87) (v := ?_) (a' := ?_) (ms5 16 15) rfl rfl (take_ofW HT_.out HW_.out (by kernel_rfl)) (fun _ _ _ h => h) (Or.inl ⟨by rfl, ?_⟩) hHeld ?_ ?_
      rotate_left
      ·
       rintro w' ⟨s0, s1, s2, s3, s4, s5⟩
       go_simp
       with_reducible rfl
      rotate_left
      ·
       go_simp
       rfl
      refine pure_ (i := 16) (N := some 88) (v := ?_) (a' := ?_) (ms5 17 14) rfl rfl (any_of HT_.out (by kernel_rfl)) (fun _ _ _ h => h) (Or.inl ⟨by rfl, ?_⟩) ?_ ?_
      rotate_left
      ·
       intro w'
       go_simp
       with_reducible rfl
      rotate_left
      ·
       go_simp
       rfl
      refine pure_ (i := 17) (N := some 89) (v := ?_) (a' := ?_) (ms5 18 13) rfl rfl (any_of HT_.out (by kernel_rfl)) (fun _ _ _ h => h) (Or.inl ⟨by rfl, ?_⟩) ?_ ?_
      rotate_left
      ·
       intro w'
       go_simp
       with_reducible rfl
      rotate_left
      ·
       go_simp
       rfl
      refine pure_ (i := 18) (N := some 90) (v := ?_) (a' := ?_) (ms5 19 12) rfl rfl (any_of HT_.out (by kernel_rfl)) (fun _ _ _ h => h) (Or.inl ⟨by rfl, ?_⟩) ?_ ?_
      rotate_left
      ·
       intro w'
       go_simp
       with_reducible rfl
      rotate_left
      ·
       go_simp
       rfl
      refine take_ (i := 19) (N := some 91) (v := ?_) (a' := ?_) (ms5 20 11) rfl rfl (take_ofW HT_.out HW_.out (by kernel_rfl)) (fun _ _ _ h => h) (Or.inl ⟨by rfl, ?_⟩) hHeld ?_ ?_
      rotate_left
      ·
       rintro w' ⟨s0, s1, s2, s3, s4, s5⟩
       go_simp
       with_reducible rfl
      rotate_left
      ·
       go_simp
       rfl
      refine pure_ (i := 20) (N := some 92) (v := ?_) (a' := ?_) (ms5 21 10) rfl rfl (any_of HT_.out (by kernel_rfl)) (fun _ _ _ h => h) (Or.inl ⟨by rfl, ?_⟩) ?_ ?_
      rotate_left
      ·
       intro w'
       go_simp
       with_reducible rfl
      rotate_left
      ·
       go_simp
       rfl
      refine pure_ (i := 21) (N := some 93) (v := ?_) (a' := ?_) (ms5 22 9) rfl rfl (any_of HT_.out (by kernel_rfl)) (fun _ _ _ h => h) (Or.inl ⟨by rfl, ?_⟩) ?_ ?_
      rotate_left
      ·
       intro w'
       go_simp
       with_reducible rfl
      rotate_left
      ·
       go_simp
       rfl
      refine pure_ (i := 22) (N := some 94) (v := ?_) (a' := ?_) (ms5 23 8) rfl rfl (any_of HT_.out (by kernel_rfl)) (fun _ _ _ h => h) (Or.inl ⟨by rfl, ?_⟩) ?_ ?_
      rotate_left
      ·
       intro w'
       go_simp
       with_reducible rfl
      rotate_left
      ·
       go_simp
       rfl
      refine take_ (i := 23) (N := some 95) (v := ?_) (a' := ?_) (ms5 24 7) rfl rfl (take_ofW HT_.out HW_.out (by kernel_rfl)) (fun _ _ _ h => h) (Or.inl ⟨by rfl, ?_⟩) hHeld ?_ ?_
      rotate_left
      ·
       rintro w' ⟨s0, s1, s2, s3, s4, s5⟩
       go_simp
       with_reducible rfl
      rotate_left
      ·
       go_simp
       rfl
      refine pure_ (i := 24) (N := some 96) (v := ?_) (a' := ?_) (ms5 25 6) rfl rfl (any_of HT_.out (by kernel_rfl)) (fun _ _ _ h => h) (Or.inl ⟨by rfl, ?_⟩) ?_ ?_
      rotate_left
      ·
       intro w'
       go_simp
       with_reducible rfl
      rotate_left
      ·
       go_simp
       rfl
      refine one_ (i := 25) (N := some 97) (ms5 26 5) rfl rfl (one_of HT_.out (by kernel_rfl)) (by decide) (fun K hK => ?_)
      refine value_ (w1 := ?_) (v := ?_) (by rfl) rfl ?_ ?_
      rotate_left 2
      ·
       go_simp
       constructor
       ·
        rfl
       ·
        rfl
      have hba := below_alloc (Below.refl w6.heap.size w6)
      refine hK.out _ _ ⟨cellB (hba _) hHeld.1, cellB (hba _) hHeld.2.1, cellB (hba _) hHeld.2.2.1, cellB (hba _) hHeld.2.2.2.1, cellB (hba _) hHeld.2.2.2.2.1, cellB (hba _) hHeld.2.2.2.2.2⟩ (fun _ => ?_)
      clear hK K hba
      refine norm_ (a' := ?_) ?_ ?_
      rotate_left
      ·
       show Act.put _ (some 97) _ = _
       go_simp
       rfl
      refine one_ (i := 26) (N := some 98) (ms5 27 4) rfl rfl (one_of HT_.out (by kernel_rfl)) (by decide) (fun K hK => ?_)
      refine Kd.R_append_step k24 (w0 := w0) (W := w6) w0.heap.size (by rfl) (.tmp 91) (.tmp 97) 22 24 (.agg #[(.string ⟨#[]⟩), (.string ⟨#[]⟩), (.slice none 0 0)]) 56 rfl Tryz.underlying22 info24 rfl (by decide) (by decide) (.slice Au up.ks.length cu) up.ks ⟨⟨#[]⟩, ⟨#[]⟩, []⟩ [.string ⟨#[]⟩, .string ⟨#[]⟩, .slice none 0 0] (fun k => lab k = j + 1 ∨ lab k = j + 2 ∨ w6.heap.size ≤ k) (fun k => lab k = j + 2) rfl rfl (k24_mkM _ _ _ ⟨⟨#[]⟩, ⟨#[]⟩, []⟩ (Kd.R_nil k24 24 w6 w0.heap.size _)) (fun k hk => ⟨.inr (.inl hk), fun e => absurd e (Kd.R_away HRu.out (fun q hq e2 => by subst e2; exact Nat.ne_of_lt (Nat.lt_succ_self (j + 1)) ((show lab q = j + 1 from hq).symm.trans hk)))⟩) (fun k hk => .inr (.inr hk)) (Kd.R_mono HRu.out (fun k hk => .inl hk)) HBd.out.1 hsz1 hbnd ?_
      intro v5 w5 hA5 hb5 hg5 hat5
      obtain ⟨A5, c5, rfl⟩ := Kd.R_slice hA5
      rw [show (up.ks ++ [(⟨⟨#[]⟩, ⟨#[]⟩, []⟩ : S24)]).length = up.ks.length + 1 by simp] at hA5 hat5
      have hne : ∀ (x t : Nat) (cells : Array Value), w6.heap[x]? = some (.cells cells t (0, 0)) → t ≠ 24 → some x ≠ (Value.slice Au up.ks.length cu).ownBlock := fun x t cells hx ht => own_ne (Kd.R_own HRu.out).choose_spec hx (fun e2 => ht e2.symm)
      have HK5 := Lib.hid (K44.grown HBd.out.2 hg5 (fun k c e h => hne k 44 c h (by decide) e.symm))
      have hh5 := blk_grown hhud hg5 (hne gu _ _ hhud (by decide))
      have hhg5 := blk_grown hhd hg5 (hne g _ _ hhd (by decide))
      have hhb5 := blk_grown HQ.out.box hg5 (hne b _ _ HQ.out.box (by decide))
      obtain ⟨rcs, hrc⟩ := own_cells HQ.out.row r rfl
      have hr5 := cellG hg5 ht1d (hne r _ _ hrc (by decide))
      refine hK.out _ _ ⟨(cell_of_row _ _ 0 _ _ _ hhb5).trans rfl, hr5, (cell_of_row _ _ 2 _ _ _ hh5).trans rfl, (cell_of_row _ _ 0 _ _ _ hhg5).trans rfl, (cell_of_row _ _ 1 _ _ _ hhg5).trans rfl, (cell_of_row _ _ 2 _ _ _ hhg5).trans rfl⟩ (fun _ => ?_)
      clear hK K
      refine norm_ (a' := ?_) ?_ ?_
      rotate_left
      ·
       show Act.put _ (some 98) _ = _
       go_simp
       rfl
      refine pure_ (i := 27) (N := some 99) (v := ?_) (a' := ?_) (ms5 28 3) rfl rfl (any_of HT_.out (by kernel_rfl)) (fun _ _ _ h => h) (Or.inl ⟨by rfl, ?_⟩) ?_ ?_
      rotate_left
      ·
       intro w'
       go_simp
       with_reducible rfl
      rotate_left
      ·
       go_simp
       rfl
      refine pure_ (i := 28) (N := some 100) (v := ?_) (a' := ?_) (ms5 29 2) rfl rfl (any_of HT_.out (by kernel_rfl)) (fun _ _ _ h => h) (Or.inl ⟨by rfl, ?_⟩) ?_ ?_
      rotate_left
      ·
       intro w'
       go_simp
       with_reducible rfl
      rotate_left
      ·
       go_simp
       rfl
      refine pure_ (i := 29) (N := some 101) (v := ?_) (a' := ?_) (ms5 30 1) rfl rfl (any_of HT_.out (by kernel_rfl)) (fun _ _ _ h => h) (Or.inl ⟨by rfl, ?_⟩) ?_ ?_
      rotate_left
      ·
       intro w'
       go_simp
       with_reducible rfl
      rotate_left
      ·
       go_simp
       rfl
      refine last_ (i := 30) (N := none) (ms5 31 0) rfl rfl (one_of HT_.out (by kernel_rfl)) (by decide) (fun K hK => ?_)
      have y2 := crow 2 (Value.slice Au up.ks.length cu) hh5
      have fy2 := frozen_of_row _ gu 2 _ _ hh5
      refine skip_ (w1 := ?_) (by rfl) rfl ?_ ?_
      rotate_left
      ·
       go_simp
       rfl
      refine hK.out _ _ ?_
      clear hK K
      refine done_ (done_of HT_.out (by kernel_rfl)) ?_
      obtain ⟨inn, hown⟩ := Kd.R_own hA5
      obtain ⟨hwn, hwv | ⟨g5, cap5, cur5, hwv, hg5b, hg5h, hg5c⟩⟩ := hown
      ·
       exact absurd hwv.2 (by simp)
      obtain ⟨rfl, rfl⟩ : A5 = some ⟨g5, 0, none⟩ ∧ c5 = cap5 := by
       injection hwv with h1 h2 h3
       exact ⟨h1, h3⟩
      have HA6 := Lib.hid (R_but hA5 hh5 (by decide) (But.set w5 gu 2 (.slice (some ⟨g5, 0, none⟩) (up.ks.length + 1) c5)))
      have HB6 := Lib.hid (Bl.set (wf := wf) ⟨hb5, HK5.out⟩ n2 hh5 (by decide) 2 (.slice (some ⟨g5, 0, none⟩) (up.ks.length + 1) c5))
      obtain ⟨cc, hcl, hcM, hcc, hcf⟩ := Kd.R_elem HA6.out ⟨⟨#[]⟩, ⟨#[]⟩, []⟩ (up.ks.length : Int) (Int.natCast_nonneg _) (by rw [Int.natCast_add]; exact Int.lt_succ _)
      have HCC := Lib.hid hcc
      have HCM := Lib.hid hcM
      have hgu5 : gu ≠ g5 := blk_ne hh5 hg5h (by decide)
      have HG5R := Lib.hid ((Below.heap_setCell w5 ⟨gu, 2, none⟩ (.slice (some ⟨g5, 0, none⟩) (up.ks.length + 1) c5) g5 (fun e => hgu5 e.symm)).trans hg5h)
      have HAT := Lib.hid hat5
      have HR5 := Lib.hid (R_but (Kd.R_grown (Kd.R_old HR2.out (Below.refl _ _)) hg5 (fun k hk e => absurd e (Kd.R_away HRu.out (fun q hq e2 => by subst e2; exact Nat.ne_of_lt (Nat.lt_succ_self (j + 1)) ((show lab q = j + 1 from hq).symm.trans hk.1))))) hh5 (by decide) (But.set w5 gu 2 (.slice (some ⟨g5, 0, none⟩) (up.ks.length + 1) c5)))
      have HG5 := Lib.hid hg5
      clear hcc hcM hcf hne hat5 hg5c hg5h hwv hwn hA5 hb5 hg5
      have hz1 : (0 : Int) ≤ (up.ks.length : Int) := Int.natCast_nonneg _
      have hz2 : (up.ks.length : Int) < (up.ks.length : Int) + 1 := Int.lt_succ _
      go_wp2_with (refine Kd.R_store k24 (w0 := w0) (W := w5.setCell ⟨gu, 2, none⟩ (.slice (some ⟨g5, 0, none⟩) (up.ks.length + 1) c5)) w0.heap.size rfl rfl 24 (.tmp 102) (.tmp 95) rfl 24 (g := g5) (n := up.ks.length + 1) (cap := c5) (o' := up.ks.length * 3) (up.ks.length : Int) 0 (up.ks ++ [⟨⟨#[]⟩, ⟨#[]⟩, []⟩]) (valT nd) (.agg #[.string nd.nm, .string (valT nd).f1, .slice A2 nd.ks.length c2x]) [.string nd.nm, .string (valT nd).f1, .slice A2 nd.ks.length c2x] cc (fun k => lab k = j + 1 ∨ lab k = j + 2 ∨ w6.heap.size ≤ k) (fun k => lab k = j + 2 ∧ k < w6.heap.size) ?s1 ?s2 ?s3 ?s4 ?s5 ?s6 HA6.out ?s7 ?s8 hcl HCC.out ?s9 ?sM ?sk HB6.out.1 ?_)
      case s2 => rfl
      case s5 =>
       have hi := info24
       revert hi
       cases Tryz.prog.info? 24 with
       | none => intro hi; cases hi
       | some a => intro hi; exact ⟨a, rfl, congrArg (fun x => x.2.1) (Option.some.inj hi)⟩
      case s6 => exact ⟨rfl, rfl, rfl⟩
      case s9 => exact Nat.le_refl 3
      case sM =>
       rw [List.drop_of_length_le (by rw [hcl]; exact Nat.le_refl 3)]
       exact k24_mkM _ _ _ (valT nd) HR5.out
      case sk =>
       intro k h1 h2
       refine ⟨.inr (.inl h1), fun e => ?_⟩
       subst e
       rcases HAT.out with hx | ⟨q, hx, hq⟩
       ·
        exact absurd hx (Kd.R_away HRu.out (g := k) (fun q hq e2 => by subst e2; exact Nat.ne_of_lt (Nat.lt_succ_self (j + 1)) ((show lab q = j + 1 from hq).symm.trans h1)))
       ·
        cases hx
        exact absurd h2 (Nat.not_lt.2 hq)
      intro w1' hA7 hb7 hg7
      go_wp2_with fail
      go_ret
      have hall : ∀ k, k < w6.heap.size → some k ≠ (Value.slice Au up.ks.length cu).ownBlock → k ≠ gu → w1'.heap[k]? = w6.heap[k]? := by
       intro k hk h1 h2
       refine (hg7.block k (by simp; exact Nat.lt_of_lt_of_le hk HG5.out.size) (fun e => ?_)).trans ((Below.heap_setCell w5 ⟨gu, 2, none⟩ _ k h2).trans (HG5.out.block k hk h1))
       cases e
       rcases HAT.out with hx | ⟨q, hx, hq⟩
       ·
        exact h1 hx
       ·
        cases hx
        exact absurd hk (Nat.not_lt.2 hq)
      have hgu7 : w1'.heap[gu]? = some (.cells #[.string up.nm, .string up.tx, .slice (some ⟨g5, 0, none⟩) (up.ks.length + 1) c5, .string up.name, .map (some mu), .string up.said, .bool up.hask] 195 (0, 0)) :=
       (hg7.block gu (by simp; exact (Array.getElem?_eq_some_iff.1 hh5).1) (fun e => hgu5 (Option.some.inj e))).trans ((blk_set hh5 2 _).trans rfl)
      have hfin := HQ.out.mend (W' := w1') j gu up hgd hgu hup hhud HRu.out hall (up.ks ++ [valT nd]) _ hgu7 hA7
      rw [HC.out]
      exact ⟨rfl, ⟨hb7, K44.grown HB6.out.2 hg7 (fun k c e h => by cases e; exact absurd rfl (blk_ne h HG5R.out (by decide)))⟩, fun _ => ⟨_, _, _, _, hfin⟩⟩
  ·
   have hnb : (nd.name.toList != name.toList) = true := by
    rw [bne_iff_ne]
    intro e
    rw [Lib.toList_data, Lib.toList_data] at e
    exact hnm (ByteArray.ext (Array.toList_inj.1 e))
   have hcl : closeT S name = (S, 23) := by unfold closeT; rw [hlast]; simp only []; rw [if_neg hnm]
   have hnb2 : (nd.name.toList == name.toList) = false := by simpa using hnb
   go_wp2_with fail
   go_ret
   exact ⟨by rw [hcl]; rfl, HB0.out, fun h0 => by rw [hcl] at h0; cases h0⟩
end Go.Proofs.YtknfpggiigncpaaGreatDoor.T
