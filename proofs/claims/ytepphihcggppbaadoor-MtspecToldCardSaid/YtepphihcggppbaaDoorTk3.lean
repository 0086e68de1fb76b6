/- mtspec.Table's take, walked by hand. -/
import Derived.Test.YtepphihcggppbaaDoorTk2
import Derived.Deep.DeepCutAuto
import Derived.Deep.CutBlock
import Derived.Laws.Cover3
set_option linter.unusedVariables false
set_option linter.unusedSimpArgs false
namespace Go.Proofs.YtepphihcggppbaaDoor.A
open Go.RowKit Go.Proofs.YtepphihcggppbaaDoorW.PrintWords Go.Proofs.YtepphihcggppbaaDoorW.PrintLast Go.Proofs.YtepphihcggppbaaDoorW.PrintMore

/-- What take leaves: all blocks but those of tables, of their rows, of numbers and of 'open'. -/
def KQ (W W' : World) : Prop := W.heap.size ≤ W'.heap.size ∧ ∀ (k : Nat) (o : Obj), W.heap[k]? = some o → (∀ (t : Nat) (c : Array Value), o = Obj.cells c t (0, 0) → t ≠ 24 ∧ t ≠ 3 ∧ t ≠ 4 ∧ t ≠ 49) → W'.heap[k]? = some o
theorem KQ.refl (W : World) : KQ W W := ⟨Nat.le_refl _, fun _ _ h _ => h⟩
theorem KQ.trans {A B C : World} (h : KQ A B) (k : KQ B C) : KQ A C := ⟨Nat.le_trans h.1 k.1, fun i o ho ht => k.2 i o (h.2 i o ho ht) ht⟩
theorem KQ.below {W W' : World} (h : Below W.heap.size W W') : KQ W W' := ⟨h.size, fun k o ho _ => (h.block k (tlt ho)).trans ho⟩
theorem KQ.hst {W W' : World} (hs : W.heap.size ≤ W'.heap.size) (tch : Nat → Prop) (hst : ∀ k, k < W.heap.size → ¬ tch k → W'.heap[k]? = W.heap[k]?) (ht : ∀ k, tch k → ∃ (t : Nat) (c : Array Value), W.heap[k]? = some (Obj.cells c t (0, 0)) ∧ (t = 24 ∨ t = 3 ∨ t = 4 ∨ t = 49)) : KQ W W' := by
  refine ⟨hs, fun k o ho hf => (hst k (tlt ho) (fun hk => ?_)).trans ho⟩
  obtain ⟨t, c, hc, ht'⟩ := ht k hk
  rw [hc] at ho
  have := hf t c (Option.some.inj ho).symm
  omega
theorem KQ.set {W : World} {x t : Nat} {c : Array Value} (h : W.heap[x]? = some (Obj.cells c t (0, 0))) (ht : t = 24 ∨ t = 3 ∨ t = 4 ∨ t = 49) (j : Nat) (u : Value) : KQ W (W.setCell ⟨x, j, none⟩ u) :=
  KQ.hst (by simp [World.setCell]) (fun k => k = x) (fun k _ hk => Below.heap_setCell W ⟨x, j, none⟩ u k hk) (fun k hk => by subst hk; exact ⟨t, c, h, ht⟩)
theorem info3 : (Tryd.prog.info? 3).map (fun i => (i.zero, i.size, i.bytes)) = some (some (.int .i64 0), 1, 8) := by kernel_rfl
theorem own_cells2 {W : World} {n0 g c n : Nat} {l : List Int} (h : W.ownsRow n0 3 1 (.slice (some ⟨g, 0, none⟩) n c) n (nums .i64 l)) (i : Nat) (v : Int) (hi : l[i]? = some v) : W.cell? ⟨g, i, none⟩ = some (.int .i64 v) := by
  obtain ⟨h1, ⟨h2, _⟩ | ⟨r, cap, cur, h2, _, hh, _, _, hsz, hc⟩⟩ := h
  · cases h2
  · injection h2 with e1 e2 e3
    cases e1
    refine (cell_of_row _ _ i _ _ _ hh).trans ?_
    have h3 : (nums .i64 l)[i]? = some (.int .i64 v) := by unfold nums; rw [List.getElem?_map, hi]; rfl
    rw [← hc, List.getElem?_take] at h3
    split at h3
    · rw [← Array.getElem?_toList]; exact h3
    · cases h3
theorem KQ.fr {w0 W W' : World} {g : Nat} {v : Value} {s : S24} {ks : List S24} {T : Nat → Prop} (hb : Sbox W g s v) (hR : k24.R 24 W w0.heap.size T v ks) (h : Fr W W' g v) : KQ W W' :=
  KQ.hst h.1 (fun k => k = g ∨ some k = v.ownBlock) (fun k hk hn => h.2 k hk (fun e => hn (.inl e)) (fun e => hn (.inr e))) (fun k hk => by
    rcases hk with rfl | h
    · exact ⟨24, _, hb, by decide⟩
    · obtain ⟨c, hc⟩ := Kd.R_typed hR k h.symm; exact ⟨24, c, hc, by decide⟩)
set_option maxRecDepth 100000 in
set_option maxHeartbeats 8000000 in
theorem take_any (w0 W : World) (gr gg gn go gp : Nat) (st st' : St) (gs : S24) (A B : Nat → Prop) (rv gv nv : Value) (h : Rep W w0.heap.size gr gg gn go gp st gs A B rv gv nv) (x : ByteArray) (hx : x.size ≤ 1000) (hr : Lib.atoiAll x.data.toList ≠ .range)
    (hG : Glob w0) (hB : Below w0.heap.size w0 W) (hl : st.root.f4.length ≤ 1000 ∧ ∀ g, st.grp = some g → g.f4.length ≤ 1000) (ht : takeT st x = some st') :
    Calls Tryd.prog 25 #[.string x, .pointer (some ⟨go, 0, none⟩), .pointer (some ⟨gn, 0, none⟩), .pointer (some ⟨gg, 0, none⟩), .pointer (some ⟨gp, 0, none⟩)] W fun e w' => (∃ v, e = .returned v) ∧
      (∃ gs' A' B' rv' gv' nv', Rep w' w0.heap.size gr gg gn go gp st' gs' A' B' rv' gv' nv') ∧ Below w0.heap.size w0 w' ∧ KQ W w' := by
  have hu24 := Tryd.underlying24
  have hu49 := Tryd.underlying49
  have HR := Lib.hid h
  have HB := Lib.hid hB
  have HG := Lib.hid hG
  have HL := Lib.hid hl
  have HT := Lib.hid ht
  clear h hB hG hl ht
  go_enter Tryd.func25, Tryd.ntmps25
  go_wp2_with fail
  refine (cutSuffix_any x ⟨#[63]⟩ W (by omega)).mono ?_
  rintro e w1 ⟨rfl, rfl⟩
  obtain ⟨tg, htg⟩ : ∃ tg, tagT x = tg := ⟨_, rfl⟩
  have htg2 : (⟨(Lib.trimSuffix x.data.toList [63]).toArray⟩ : ByteArray) = tg := htg
  have hls : leastT x = if Lib.hasSuffix x.data.toList [63] then 0 else 1 := rfl
  simp only [show (⟨#[63]⟩ : ByteArray).data.toList = [63] from rfl]
  rw [htg2]
  go_upto_if 18 with fail
  go_cut [7, 8] (fun v7 v8 wc => Hid (v8 = .int .i64 (leastT x)) ∧ Hid (wc = w1))
  case first =>
    cases hm : Lib.hasSuffix x.data.toList [63] with
    | true =>
      go_wp2_with fail
      go_meet
      case rel => exact ⟨Lib.hid (by rw [hls, hm]; rfl), Lib.hid rfl⟩
    | false =>
      go_wp2_with fail
      go_meet
      case rel => exact ⟨Lib.hid (by rw [hls, hm]; rfl), Lib.hid rfl⟩
  case rest =>
    obtain ⟨h8, hw⟩ := hcut
    have e8 := h8.out
    have ew := hw.out
    subst e8
    subst ew
    clear h8 hw hls
    have HT' := HT.out
    unfold takeT at HT'
    rw [htg] at HT'
    generalize leastT x = ls at *
    go_wp2_with fail
    refine (spec_any tg ls 1 wc).mono ?_
    rintro e w2 ⟨sv, rfl, hS, hb2⟩
    obtain ⟨As, cs, rfl⟩ := Kd.R_slice hS
    generalize hsp : specT tg ls 1 = sp at *
    obtain ⟨sp, is⟩ := sp
    simp only at hS hsp ⊢
    have HB2 := Lib.hid (HB.out.trans (hb2.mono HB.out.size))
    have hz := below_alloc (Below.refl w2.heap.size w2) (.cells (specC sp (.slice As sp.f4.length cs)) 24)
    have H0 := Lib.hid (Sbox.new w2 z24 (.slice none 0 0))
    have HSb := Lib.hid (Sbox.new w2 sp (.slice As sp.f4.length cs))
    have HS := Lib.hid (Kd.R_below hS hz)
    have HR3 := Lib.hid ((HR.out.below hb2).below hz)
    have HB3 := Lib.hid (HB2.out.trans (hz.mono HB2.out.size))
    have HQ3 := Lib.hid ((KQ.below hb2).trans (KQ.below hz))
    have HN3 := Lib.hid (show wc.heap.size ≤ w2.heap.size ∧ w2.heap.size < (w2.alloc (.cells (specC sp (.slice As sp.f4.length cs)) 24)).heap.size from ⟨hb2.size, by simp⟩)
    clear hb2 hz hS HB2
    obtain ⟨z0, z1, z2, z3, z4, z5⟩ := H0.out.frozen
    obtain ⟨c0, c1, c2, c3, c4, c5⟩ := H0.out.cells
    unfold specV specC z24 at *
    dsimp only at *
    go_upto_region 5 with fail
    clear z0 z1 z2 z3 z4 z5 c0 c1 c2 c3 c4 c5 H0
    generalize w2.heap.size = gb at HSb HN3 ⊢
    generalize w2.alloc _ = w3 at HSb HS HR3 HB3 HQ3 HN3 ⊢
    go_wp2_with fail
    refine (atoi_any x hx hr w3 (HG.out.below HB3.out)).mono ?_
    rintro e w4 ⟨⟨n, ev, rfl, hat⟩, hb4⟩
    have HSb4 := Lib.hid (show Sbox w4 gb sp (.slice As sp.f4.length cs) from Sbox.low (show Sbox w3 gb sp (.slice As sp.f4.length cs) from HSb.out) hb4 HN3.out.2)
    have HS4 := Lib.hid (Kd.R_below HS.out hb4)
    have HR4 := Lib.hid (HR3.out.below hb4)
    have HB4 := Lib.hid (HB3.out.trans (hb4.mono HB3.out.size))
    have HQ4 := Lib.hid (HQ3.out.trans (KQ.below hb4))
    have HN4 := Lib.hid (show wc.heap.size ≤ gb ∧ gb < w4.heap.size from ⟨HN3.out.1, Nat.lt_of_lt_of_le HN3.out.2 hb4.size⟩)
    have HAT := Lib.hid hat
    have HTT := Lib.hid HT'
    clear hat hb4 HT' HSb HS HR3 HB3 HQ3 HN3
    have o0 := blk_cell HR4.out.ob 0
    have oz := frozen_of_row _ go 0 _ _ HR4.out.ob
    have n0 := blk_cell HR4.out.nb 0
    have nz := frozen_of_row _ gn 0 _ _ HR4.out.nb
    have p0 : w4.cell? ⟨gp, 0, none⟩ = some (.func (.func 24) #[] #[.pointer (some ⟨go, 0, none⟩), .pointer (some ⟨gg, 0, none⟩), .pointer (some ⟨gr, 0, none⟩)]) := blk_cell HR4.out.pb 0
    by_cases hx40 : x.data.toList = [40]
    · have hb40 : (x.toList == [40]) = true := by rw [Lib.toList_data]; simp [hx40]
      have hst : st' = { st with opn := true } := by
        have := HTT.out
        rw [if_pos hx40] at this
        exact (Option.some.inj this).symm
      subst hst
      go_wp2_with fail
      go_end0
      exact ⟨⟨_, rfl⟩, ⟨_, _, _, _, _, _, HR4.out.setO true⟩, HB4.out.setCell (p := ⟨go, 0, none⟩) HR4.out.lo.2.2.2.1 _, HQ4.out.trans (KQ.set HR4.out.ob (by decide) 0 _)⟩
    · have hb40 : (x.toList == [40]) = false := by rw [Lib.toList_data]; simpa using hx40
      by_cases hx41 : x.data.toList = [41]
      · have hb41 : (x.toList == [41]) = true := by rw [Lib.toList_data]; simp [hx41]
        have hst : st' = { st with opn := false, nms := some [] } := by
          have := HTT.out
          rw [if_neg hx40, if_pos hx41] at this
          exact (Option.some.inj this).symm
        subst hst
        go_upto_region 11 with fail
        have HR5 := Lib.hid (HR4.out.setO false)
        have HB5 := Lib.hid (HB4.out.setCell (p := ⟨go, 0, none⟩) HR4.out.lo.2.2.2.1 (.bool false))
        have HQ5 := Lib.hid (HQ4.out.trans (KQ.set HR4.out.ob (by decide) 0 (.bool false)))
        clear o0 oz n0 nz p0
        generalize w4.setCell _ _ = w5 at HR5 HB5 HQ5 ⊢
        have hba := below_alloc (Below.refl w5.heap.size w5) (.cells #[] 3)
        have HR6 := Lib.hid (HR5.out.below hba)
        have n0 := blk_cell HR6.out.nb 0
        have nz := frozen_of_row _ gn 0 _ _ HR6.out.nb
        have hnv : NumV (w5.alloc (.cells #[] 3)) w0.heap.size (.slice (some ⟨w5.heap.size, 0, none⟩) 0 0) (some []) :=
          ⟨⟨_, _, rfl⟩, rfl, .inr ⟨w5.heap.size, 0, #[], rfl, HB5.out.size, (MapKept.heap_alloc w5 (.cells #[] 3)).1, Nat.le_refl _, Nat.zero_le _, rfl, rfl⟩⟩
        have hf := HR5.out.setN hba.size (fun k hk _ => hba.block k hk) _ _ hnv
        have hq := (KQ.below hba).trans (KQ.set HR6.out.nb (by decide) 0 (.slice (some ⟨w5.heap.size, 0, none⟩) 0 0))
        have hb := (HB5.out.trans (hba.mono HB5.out.size)).setCell (p := ⟨gn, 0, none⟩) HR5.out.lo.2.2.1 (.slice (some ⟨w5.heap.size, 0, none⟩) 0 0)
        clear hba hnv
        go_wp2_with fail
        go_end0
        exact ⟨⟨_, rfl⟩, ⟨_, _, _, _, _, _, hf⟩, hb, HQ5.out.trans hq⟩
      · have hb41 : (x.toList == [41]) = false := by rw [Lib.toList_data]; simpa using hx41
        have hTT := HTT.out
        rw [if_neg hx40, if_neg hx41] at hTT
        obtain ⟨op, nm, grp, root⟩ := st
        dsimp only at hTT o0
        cases nm with
        | none =>
          have hnv : nv = .slice none 0 0 := HR4.out.num
          subst hnv
          dsimp only at hTT
          cases is with
          | false =>
            have hst := (Option.some.inj hTT).symm
            subst hst
            obtain ⟨z0, z1, z2, z3, z4, z5⟩ := HR4.out.gb.frozen
            obtain ⟨c0, c1, c2, c3, c4, c5⟩ := HR4.out.gb.cells
            have hX := put6_box HR4.out.gb ⟨x, 0, 0, ⟨#[]⟩, [], false⟩ (.slice none 0 0)
            have hf := HR4.out.setG (W1 := put6 w4 gg ⟨x, 0, 0, ⟨#[]⟩, [], false⟩ (.slice none 0 0)) (by rw [put6_size]; exact Nat.le_refl _) (fun k _ hk => put6_other _ _ _ _ k hk) ⟨x, 0, 0, ⟨#[]⟩, [], false⟩ (.slice none 0 0) hX (.inr ⟨rfl, rfl⟩)
            have hb := put6_below HB4.out gg HR4.out.lo.2.1 ⟨x, 0, 0, ⟨#[]⟩, [], false⟩ (.slice none 0 0)
            have hq : KQ w4 (put6 w4 gg ⟨x, 0, 0, ⟨#[]⟩, [], false⟩ (.slice none 0 0)) := KQ.hst (by rw [put6_size]; exact Nat.le_refl _) (fun k => k = gg) (fun k _ hk => put6_other _ _ _ _ k hk) (fun k hk => by subst hk; exact ⟨24, _, HR4.out.gb, by decide⟩)
            have HF := Lib.hid hf
            have HBf := Lib.hid hb
            have HQf := Lib.hid hq
            clear hf hb hq hX
            unfold put6 at HF HBf HQf
            dsimp only at HF HBf HQf
            go_wp2_with fail
            generalize World.setCell _ _ _ = w9 at HF HBf HQf ⊢
            go_end0
            exact ⟨⟨_, rfl⟩, ⟨_, _, _, _, _, _, HF.out⟩, HBf.out, HQ4.out.trans HQf.out⟩
          | true =>
            have hput := hTT
            rw [if_pos rfl] at hput
            obtain ⟨k0, k1, k2, k3, k4, k5⟩ := Sbox.cells HSb4.out
            have hC : k24.R 24 w4 w0.heap.size (fun k => wc.heap.size ≤ k ∧ k < w4.heap.size) (.slice As sp.f4.length cs) sp.f4 := Kd.R_mono (Kd.R_lower (Kd.R_bound HS4.out) HB.out.size) (fun k hk => ⟨hk.2.1, hk.2.2.1⟩)
            have hCB : ∀ k, (wc.heap.size ≤ k ∧ k < w4.heap.size) → ¬ A k ∧ ¬ B k ∧ k ≠ gr ∧ k ≠ gg := by
              intro k hk
              refine ⟨fun h => ?_, fun h => ?_, fun h => ?_, fun h => ?_⟩
              · obtain ⟨c, hc⟩ := (HR.out.ta k h).2; have := tlt hc; omega
              · obtain ⟨c, hc⟩ := (HR.out.tb k h).2; have := tlt hc; omega
              · have := HR.out.rb.lt; omega
              · have := HR.out.gb.lt; omega
            have HC := Lib.hid hC
            clear hC
            cases op with
            | true =>
              unfold putT at hput
              rw [if_pos rfl] at hput
              dsimp only at hput
              cases grp with
              | none => cases hput
              | some g =>
                have hst := (Option.some.inj hput).symm
                subst hst
                obtain ⟨hgg, hgl⟩ := HR4.out.gl g rfl
                subst hgg
                have hcall := put_true w0 w4 gr gg go sp gs As cs gv B (fun k => wc.heap.size ≤ k ∧ k < w4.heap.size) HR4.out.gb o0 hgl HC.out (fun k hk => (hCB k hk).2.1) (fun k hk => (HR4.out.tb k hk).1.2) (fun k hk => ⟨(hCB k hk).2.2.2, hk.2⟩) (HL.out.2 _ rfl) HB4.out HR4.out.lo.2.1
                have HCall := Lib.hid hcall
                clear hcall
                go_wp2_with fail
                refine HCall.out.mono ?_
                rintro e w5 ⟨⟨vv, rfl⟩, hD⟩
                obtain ⟨B', gv', hf⟩ := HR4.out.putG rfl hD hCB
                obtain ⟨_, _, _, hb5, hfr⟩ := hD
                have hq : KQ w4 w5 := KQ.hst hfr.1 (fun k => k = gg ∨ some k = gv.ownBlock) (fun k hk hn => hfr.2 k hk (fun e => hn (.inl e)) (fun e => hn (.inr e))) (fun k hk => by
                  rcases hk with rfl | h
                  · exact ⟨24, _, HR4.out.gb, by decide⟩
                  · obtain ⟨c, hc⟩ := Kd.R_typed hgl k h.symm; exact ⟨24, c, hc, by decide⟩)
                have HF := Lib.hid hf
                have HQf := Lib.hid hq
                have HB5 := Lib.hid hb5
                clear hf hq hb5 hfr hgl
                go_wp2_with fail
                go_end0
                exact ⟨⟨_, rfl⟩, ⟨_, _, _, _, _, _, HF.out⟩, HB5.out, HQ4.out.trans HQf.out⟩
            | false =>
              unfold putT at hput
              rw [if_neg (by simp)] at hput
              have hst := (Option.some.inj hput).symm
              subst hst
              have hcall := put_false w0 w4 gr gg go sp root As cs rv A (fun k => wc.heap.size ≤ k ∧ k < w4.heap.size) HR4.out.rb o0 HR4.out.rr HC.out (fun k hk => (hCB k hk).1) (fun k hk => (HR4.out.ta k hk).1.2.1) (fun k hk => ⟨(hCB k hk).2.2.1, hk.2⟩) HL.out.1 HB4.out HR4.out.lo.1
              have HCall := Lib.hid hcall
              clear hcall
              go_wp2_with fail
              refine HCall.out.mono ?_
              rintro e w5 ⟨⟨vv, rfl⟩, hD⟩
              obtain ⟨A', B', rv', hf⟩ := HR4.out.putR hD (fun k hk => ⟨(hCB k hk).1, (hCB k hk).2.2⟩) true (fun _ k hk => (hCB k hk).2.1) grp (fun _ => rfl) (fun h => by cases h)
              obtain ⟨_, _, _, hb5, hfr⟩ := hD
              have hq : KQ w4 w5 := KQ.hst hfr.1 (fun k => k = gr ∨ some k = rv.ownBlock) (fun k hk hn => hfr.2 k hk (fun e => hn (.inl e)) (fun e => hn (.inr e))) (fun k hk => by
                rcases hk with rfl | h
                · exact ⟨24, _, HR4.out.rb, by decide⟩
                · obtain ⟨c, hc⟩ := Kd.R_typed HR4.out.rr k h.symm; exact ⟨24, c, hc, by decide⟩)
              have HF := Lib.hid hf
              have HQf := Lib.hid hq
              have HB5 := Lib.hid hb5
              clear hf hq hb5 hfr
              go_wp2_with fail
              go_end0
              exact ⟨⟨_, rfl⟩, ⟨_, _, _, _, _, _, HF.out⟩, HB5.out, HQ4.out.trans HQf.out⟩
        | some ns =>
          have hnum : NumV w4 w0.heap.size nv (some ns) := HR4.out.num
          obtain ⟨⟨gx, cx, hnv⟩, hown⟩ := hnum
          subst hnv
          rcases HAT.out with ⟨hat, rfl⟩ | ⟨hat, te, pe, rfl⟩
          · cases ns with
            | nil =>
              go_wp2_with (at_builtin; refine print_append_num (w0 := w0) (W := w4) w0.heap.size rfl (.tmp 46) (.tmp 48) 49 3 .i64 8 rfl hu49 info3 (by decide) (.slice (some ⟨gx, 0, none⟩) 0 cx) ([] : List Int) n (by simp [Act.eval, Act.put]) (by simp [Act.eval, Act.put]) hown HB4.out HB4.out.size (by simp) ?_)
              intro v1 w5 hown1 hb1 hg1 hat1
              obtain ⟨g1, c1, rfl, -, -⟩ := World.ownsRow.form hown1 (by decide)
              have hq5 : KQ w4 w5 := KQ.hst hg1.size (fun k => some k = (Value.slice (some ⟨gx, 0, none⟩) 0 cx).ownBlock) (fun k hk hne => hg1.block k hk hne) (fun k hk => by obtain ⟨c, hc⟩ := own_typed hown k hk.symm; exact ⟨3, c, hc, by decide⟩)
              have hn5 : w5.heap[gn]? = some (.cells #[.slice (some ⟨gx, 0, none⟩) 0 cx] 49 (0, 0)) := (hg1.block gn (tlt HR4.out.nb) (fun e => by obtain ⟨c, hc⟩ := own_typed hown gn e.symm; exact tne HR4.out.nb hc (by decide) rfl)).trans HR4.out.nb
              have hf := HR4.out.setN hg1.size (fun k hk hne => hg1.block k hk hne) (.slice (some ⟨g1, 0, none⟩) 1 c1) (some (([] : List Int) ++ [n])) ⟨⟨g1, c1, rfl⟩, hown1⟩
              have hb := hb1.setCell (p := ⟨gn, 0, none⟩) HR4.out.lo.2.2.1 (.slice (some ⟨g1, 0, none⟩) 1 c1)
              have hq := (HQ4.out.trans hq5).trans (KQ.set hn5 (by decide) 0 (.slice (some ⟨g1, 0, none⟩) 1 c1))
              have n5 := blk_cell hn5 0
              have nz5 := frozen_of_row _ gn 0 _ _ hn5
              have HF := Lib.hid hf
              have HBf := Lib.hid hb
              have HQf := Lib.hid hq
              clear hf hb hq hq5 hown1 hb1 hg1 hat1 o0 oz n0 nz p0
              go_upto_region 14 with fail
              clear n5 nz5 hn5
              generalize w5.setCell _ _ = w6 at HF HBf HQf ⊢
              have n6 := blk_cell HF.out.nb 0
              rw [hat] at hTT
              have hst := (Option.some.inj hTT).symm
              subst hst
              go_wp2_with fail
              go_end0
              exact ⟨⟨_, rfl⟩, ⟨_, _, _, _, _, _, HF.out⟩, HBf.out, HQf.out⟩
            | cons a l =>
              cases l with
              | nil =>
                go_wp2_with (at_builtin; refine print_append_num (w0 := w0) (W := w4) w0.heap.size rfl (.tmp 46) (.tmp 48) 49 3 .i64 8 rfl hu49 info3 (by decide) (.slice (some ⟨gx, 0, none⟩) 1 cx) [a] n (by simp [Act.eval, Act.put]) (by simp [Act.eval, Act.put]) hown HB4.out HB4.out.size (by simp) ?_)
                intro v1 w5 hown1 hb1 hg1 hat1
                obtain ⟨g1, c1, rfl, -, -⟩ := World.ownsRow.form hown1 (by decide)
                have hq5 : KQ w4 w5 := KQ.hst hg1.size (fun k => some k = (Value.slice (some ⟨gx, 0, none⟩) 1 cx).ownBlock) (fun k hk hne => hg1.block k hk hne) (fun k hk => by obtain ⟨c, hc⟩ := own_typed hown k hk.symm; exact ⟨3, c, hc, by decide⟩)
                have hn5 : w5.heap[gn]? = some (.cells #[.slice (some ⟨gx, 0, none⟩) 1 cx] 49 (0, 0)) := (hg1.block gn (tlt HR4.out.nb) (fun e => by obtain ⟨c, hc⟩ := own_typed hown gn e.symm; exact tne HR4.out.nb hc (by decide) rfl)).trans HR4.out.nb
                have hf := HR4.out.setN hg1.size (fun k hk hne => hg1.block k hk hne) (.slice (some ⟨g1, 0, none⟩) 2 c1) (some ([a] ++ [n])) ⟨⟨g1, c1, rfl⟩, hown1⟩
                have hb := hb1.setCell (p := ⟨gn, 0, none⟩) HR4.out.lo.2.2.1 (.slice (some ⟨g1, 0, none⟩) 2 c1)
                have hq := (HQ4.out.trans hq5).trans (KQ.set hn5 (by decide) 0 (.slice (some ⟨g1, 0, none⟩) 2 c1))
                have n5 := blk_cell hn5 0
                have nz5 := frozen_of_row _ gn 0 _ _ hn5
                have HF := Lib.hid hf
                have HBf := Lib.hid hb
                have HQf := Lib.hid hq
                clear hf hb hq hq5 hown1 hb1 hg1 hat1 o0 oz n0 nz p0
                go_upto_region 14 with fail
                clear n5 nz5 hn5
                generalize w5.setCell _ _ = w6 at HF HBf HQf ⊢
                have n6 := blk_cell HF.out.nb 0
                rw [hat] at hTT
                dsimp only at hTT
                cases op with
                | true => cases hTT
                | false =>
                  cases grp with
                  | none => cases hTT
                  | some g =>
                    have hst := (Option.some.inj hTT).symm
                    subst hst
                    obtain ⟨hgg, hgl⟩ := HF.out.gl g rfl
                    subst hgg
                    obtain ⟨Ag, cg, rfl⟩ := Kd.R_slice hgl
                    have e0 := own_cells2 HF.out.num.2 0 a rfl
                    have e1 := own_cells2 HF.out.num.2 1 n rfl
                    obtain ⟨z0, z1, z2, z3, z4, z5⟩ := HF.out.gb.frozen
                    obtain ⟨k0, k1, k2, k3, k4, k5⟩ := HF.out.gb.cells
                    obtain ⟨c3, hc3⟩ := own_typed HF.out.num.2 g1 rfl
                    have hx1 : g1 ≠ gg := tne hc3 HF.out.gb (by decide)
                    have hx2 : gg ≠ g1 := nb_ne hx1
                    have hx3 : gn ≠ gg := tne HF.out.nb HF.out.gb (by decide)
                    have hx4 : gg ≠ gn := nb_ne hx3
                    clear hc3
                    go_wp2_with fail
                    go_region
                    have h7 : Sbox ((w6.setCell ⟨gg, 1, none⟩ (.int .i64 a)).setCell ⟨gg, 2, none⟩ (.int .i64 n)).drew gg ⟨gs.f0, a, n, gs.f3, gs.f4, gs.f5⟩ (.slice Ag gs.f4.length cg) := blk_put (blk_put HF.out.gb 1 _ rfl) 2 _ rfl
                    have hm7 : ∀ k : Nat, k ≠ gg → ((w6.setCell ⟨gg, 1, none⟩ (.int .i64 a)).setCell ⟨gg, 2, none⟩ (.int .i64 n)).drew.heap[k]? = w6.heap[k]? := fun k hk => (Below.heap_setCell _ ⟨gg, 2, none⟩ _ k hk).trans (Below.heap_setCell _ ⟨gg, 1, none⟩ _ k hk)
                    have hs7 : w6.heap.size ≤ ((w6.setCell ⟨gg, 1, none⟩ (.int .i64 a)).setCell ⟨gg, 2, none⟩ (.int .i64 n)).drew.heap.size := by show w6.heap.size ≤ ((w6.setCell ⟨gg, 1, none⟩ (.int .i64 a)).setCell ⟨gg, 2, none⟩ (.int .i64 n)).heap.size; simp [World.setCell]
                    have HF7 := Lib.hid (HF.out.setG hs7 (fun k _ hk => hm7 k hk) ⟨gs.f0, a, n, gs.f3, gs.f4, gs.f5⟩ (.slice Ag gs.f4.length cg) h7 (.inl ⟨rfl, rfl, gs, rfl⟩))
                    have HB7 := Lib.hid (((HBf.out.setCell (p := ⟨gg, 1, none⟩) HF.out.lo.2.1 (.int .i64 a)).setCell (p := ⟨gg, 2, none⟩) HF.out.lo.2.1 (.int .i64 n)).drew)
                    have HQ7 := Lib.hid (HQf.out.trans (KQ.hst hs7 (fun k => k = gg) (fun k _ hk => hm7 k hk) (fun k hk => by subst hk; exact ⟨24, _, HF.out.gb, by decide⟩)))
                    clear h7 hm7 hs7 HF HBf HQf hgl e0 e1 z0 z1 z2 z3 z4 z5 k0 k1 k2 k3 k4 k5 n6
                    generalize World.drew _ = w7 at HF7 HB7 HQ7 ⊢
                    obtain ⟨-, hgl⟩ := HF7.out.gl _ rfl
                    have o7 := blk_cell HF7.out.ob 0
                    have p7 : w7.cell? ⟨gp, 0, none⟩ = some (.func (.func 24) #[] #[.pointer (some ⟨go, 0, none⟩), .pointer (some ⟨gg, 0, none⟩), .pointer (some ⟨gr, 0, none⟩)]) := blk_cell HF7.out.pb 0
                    obtain ⟨k0, k1, k2, k3, k4, k5⟩ := HF7.out.gb.cells
                    have hBA : ∀ k, B k → ¬ A k ∧ k ≠ gr ∧ k ≠ gg := fun k hk => ⟨fun h => (HF7.out.ta k h).1.1 hk, (HF7.out.tb k hk).1⟩
                    have hcall := put_false w0 w7 gr gg go ⟨gs.f0, a, n, gs.f3, gs.f4, gs.f5⟩ root Ag cg rv A B HF7.out.rb o7 HF7.out.rr hgl (fun k hk => (hBA k hk).1) (fun k hk => (HF7.out.ta k hk).1.2.1) (fun k hk => ⟨(hBA k hk).2.1, by obtain ⟨c, hc⟩ := (HF7.out.tb k hk).2; exact tlt hc⟩) HL.out.1 HB7.out HF7.out.lo.1
                    have HCall := Lib.hid hcall
                    clear hcall hgl
                    go_wp2_with fail
                    refine HCall.out.mono ?_
                    rintro e w8 ⟨⟨vv, rfl⟩, hD⟩
                    obtain ⟨A', B', rv', hf⟩ := HF7.out.putR hD hBA false (fun h => by cases h) none (fun h => by cases h) (fun _ => rfl)
                    obtain ⟨_, _, _, hb8, hfr⟩ := hD
                    have hq := KQ.fr HF7.out.rb HF7.out.rr hfr
                    have HF8 := Lib.hid hf
                    have HQ8 := Lib.hid (HQ7.out.trans hq)
                    have HB8 := Lib.hid hb8
                    clear hf hq hb8 hfr o7 p7 k0 k1 k2 k3 k4 k5 HF7 HB7 HQ7 HCall
                    have n8 := blk_cell HF8.out.nb 0
                    have nz8 := frozen_of_row _ gn 0 _ _ HF8.out.nb
                    go_wp2_with fail
                    go_end0
                    exact ⟨⟨_, rfl⟩, ⟨_, _, _, _, _, _, HF8.out.setN (Nat.le_refl _) (fun _ _ _ => rfl) (.slice none 0 0) none rfl⟩, HB8.out.setCell (p := ⟨gn, 0, none⟩) HF8.out.lo.2.2.1 _, HQ8.out.trans (KQ.set HF8.out.nb (by decide) 0 _)⟩
              | cons b l =>
                rw [hat] at hTT
                cases hTT
          · have hTT : (if is then putT ⟨op, some ns, grp, root⟩ sp else some ⟨op, some ns, some ⟨x, 0, 0, ⟨#[]⟩, [], false⟩, root⟩) = some st' := by
              rw [hat] at hTT
              cases ns with
              | nil => exact hTT
              | cons a l => cases l <;> exact hTT
            cases is with
            | false =>
              have hst := (Option.some.inj hTT).symm
              subst hst
              obtain ⟨z0, z1, z2, z3, z4, z5⟩ := HR4.out.gb.frozen
              obtain ⟨c0, c1, c2, c3, c4, c5⟩ := HR4.out.gb.cells
              have hX := put6_box HR4.out.gb ⟨x, 0, 0, ⟨#[]⟩, [], false⟩ (.slice none 0 0)
              have hf := HR4.out.setG (W1 := put6 w4 gg ⟨x, 0, 0, ⟨#[]⟩, [], false⟩ (.slice none 0 0)) (by rw [put6_size]; exact Nat.le_refl _) (fun k _ hk => put6_other _ _ _ _ k hk) ⟨x, 0, 0, ⟨#[]⟩, [], false⟩ (.slice none 0 0) hX (.inr ⟨rfl, rfl⟩)
              have hb := put6_below HB4.out gg HR4.out.lo.2.1 ⟨x, 0, 0, ⟨#[]⟩, [], false⟩ (.slice none 0 0)
              have hq : KQ w4 (put6 w4 gg ⟨x, 0, 0, ⟨#[]⟩, [], false⟩ (.slice none 0 0)) := KQ.hst (by rw [put6_size]; exact Nat.le_refl _) (fun k => k = gg) (fun k _ hk => put6_other _ _ _ _ k hk) (fun k hk => by subst hk; exact ⟨24, _, HR4.out.gb, by decide⟩)
              have HF := Lib.hid hf
              have HBf := Lib.hid hb
              have HQf := Lib.hid hq
              clear hf hb hq hX
              unfold put6 at HF HBf HQf
              dsimp only at HF HBf HQf
              go_wp2_with fail
              generalize World.setCell _ _ _ = w9 at HF HBf HQf ⊢
              go_end0
              exact ⟨⟨_, rfl⟩, ⟨_, _, _, _, _, _, HF.out⟩, HBf.out, HQ4.out.trans HQf.out⟩
            | true =>
              have hput := hTT
              rw [if_pos rfl] at hput
              obtain ⟨k0, k1, k2, k3, k4, k5⟩ := Sbox.cells HSb4.out
              have hC : k24.R 24 w4 w0.heap.size (fun k => wc.heap.size ≤ k ∧ k < w4.heap.size) (.slice As sp.f4.length cs) sp.f4 := Kd.R_mono (Kd.R_lower (Kd.R_bound HS4.out) HB.out.size) (fun k hk => ⟨hk.2.1, hk.2.2.1⟩)
              have hCB : ∀ k, (wc.heap.size ≤ k ∧ k < w4.heap.size) → ¬ A k ∧ ¬ B k ∧ k ≠ gr ∧ k ≠ gg := by
                intro k hk
                refine ⟨fun h => ?_, fun h => ?_, fun h => ?_, fun h => ?_⟩
                · obtain ⟨c, hc⟩ := (HR.out.ta k h).2; have := tlt hc; omega
                · obtain ⟨c, hc⟩ := (HR.out.tb k h).2; have := tlt hc; omega
                · have := HR.out.rb.lt; omega
                · have := HR.out.gb.lt; omega
              have HC := Lib.hid hC
              clear hC
              cases op with
              | true =>
                unfold putT at hput
                rw [if_pos rfl] at hput
                dsimp only at hput
                cases grp with
                | none => cases hput
                | some g =>
                  have hst := (Option.some.inj hput).symm
                  subst hst
                  obtain ⟨hgg, hgl⟩ := HR4.out.gl g rfl
                  subst hgg
                  have hcall := put_true w0 w4 gr gg go sp gs As cs gv B (fun k => wc.heap.size ≤ k ∧ k < w4.heap.size) HR4.out.gb o0 hgl HC.out (fun k hk => (hCB k hk).2.1) (fun k hk => (HR4.out.tb k hk).1.2) (fun k hk => ⟨(hCB k hk).2.2.2, hk.2⟩) (HL.out.2 _ rfl) HB4.out HR4.out.lo.2.1
                  have HCall := Lib.hid hcall
                  clear hcall
                  go_wp2_with fail
                  refine HCall.out.mono ?_
                  rintro e w5 ⟨⟨vv, rfl⟩, hD⟩
                  obtain ⟨B', gv', hf⟩ := HR4.out.putG rfl hD hCB
                  obtain ⟨_, _, _, hb5, hfr⟩ := hD
                  have hq : KQ w4 w5 := KQ.hst hfr.1 (fun k => k = gg ∨ some k = gv.ownBlock) (fun k hk hn => hfr.2 k hk (fun e => hn (.inl e)) (fun e => hn (.inr e))) (fun k hk => by
                    rcases hk with rfl | h
                    · exact ⟨24, _, HR4.out.gb, by decide⟩
                    · obtain ⟨c, hc⟩ := Kd.R_typed hgl k h.symm; exact ⟨24, c, hc, by decide⟩)
                  have HF := Lib.hid hf
                  have HQf := Lib.hid hq
                  have HB5 := Lib.hid hb5
                  clear hf hq hb5 hfr hgl
                  go_wp2_with fail
                  go_end0
                  exact ⟨⟨_, rfl⟩, ⟨_, _, _, _, _, _, HF.out⟩, HB5.out, HQ4.out.trans HQf.out⟩
              | false =>
                unfold putT at hput
                rw [if_neg (by simp)] at hput
                have hst := (Option.some.inj hput).symm
                subst hst
                have hcall := put_false w0 w4 gr gg go sp root As cs rv A (fun k => wc.heap.size ≤ k ∧ k < w4.heap.size) HR4.out.rb o0 HR4.out.rr HC.out (fun k hk => (hCB k hk).1) (fun k hk => (HR4.out.ta k hk).1.2.1) (fun k hk => ⟨(hCB k hk).2.2.1, hk.2⟩) HL.out.1 HB4.out HR4.out.lo.1
                have HCall := Lib.hid hcall
                clear hcall
                go_wp2_with fail
                refine HCall.out.mono ?_
                rintro e w5 ⟨⟨vv, rfl⟩, hD⟩
                obtain ⟨A', B', rv', hf⟩ := HR4.out.putR hD (fun k hk => ⟨(hCB k hk).1, (hCB k hk).2.2⟩) true (fun _ k hk => (hCB k hk).2.1) grp (fun _ => rfl) (fun h => by cases h)
                obtain ⟨_, _, _, hb5, hfr⟩ := hD
                have hq : KQ w4 w5 := KQ.hst hfr.1 (fun k => k = gr ∨ some k = rv.ownBlock) (fun k hk hn => hfr.2 k hk (fun e => hn (.inl e)) (fun e => hn (.inr e))) (fun k hk => by
                  rcases hk with rfl | h
                  · exact ⟨24, _, HR4.out.rb, by decide⟩
                  · obtain ⟨c, hc⟩ := Kd.R_typed HR4.out.rr k h.symm; exact ⟨24, c, hc, by decide⟩)
                have HF := Lib.hid hf
                have HQf := Lib.hid hq
                have HB5 := Lib.hid hb5
                clear hf hq hb5 hfr
                go_wp2_with fail
                go_end0
                exact ⟨⟨_, rfl⟩, ⟨_, _, _, _, _, _, HF.out⟩, HB5.out, HQ4.out.trans HQf.out⟩
end Go.Proofs.YtepphihcggppbaaDoor.A
