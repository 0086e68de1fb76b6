/- From the rows' cell 'laid' to what the walks ask of the library's variables; a world that holds them, for the rows' witness. -/
import Derived.Test.YtknfpggiigncpaaGreatDoorOt19
import Derived.Test.YtknfpggiigncpaaGreatDoorUr8
import Derived.Test.YtknfpggiigncpaaGreatDoorSm
import Derived.Deep.Strs
import Derived.SizedLaws
import Derived.DataReads
import Derived.Test.YtknfpggiigncpaaGreatDoorRows
import Derived.Test.YtknfpggiigncpaaGreatDoorAx0
import Derived.Test.YtknfpggiigncpaaGreatDoorShelf
import Derived.WalkKit
import Derived.ProofKit
import Derived.OpenShut
import Derived.LaidLaws
import Derived.Lib.LaidU8
set_option maxRecDepth 100000
set_option linter.unusedVariables false
set_option linter.unusedSimpArgs false
section
namespace Go.Proofs.YtknfpggiigncpaaGreatDoor.G
open Go.RowKit P E T YtknfpggiigncpaaGreatDoorW.PrintLast YtknfpggiigncpaaGreatDoorW.PrintMore
open YtknfpggiigncpaaGreatDoorW.PrintWords
set_option maxHeartbeats 8000000 in
theorem ways_any (v : S24) (x : Int) (A : Option Addr) (c : Nat) (w : World) (hr : k24.C w A v.f2.length v.f2) (hc : v.f2.length ≤ c) (hG : Glob w) (hfit : fitL [v]) :
  Calls Tryz.prog 11 #[.agg #[.string v.f0, .string v.f1, .slice A v.f2.length c], .int .u8 x] w fun e w' => e = .returned (.bool true) ∧ Below w.heap.size w w' := by
 have hu24 := Tryz.underlying24
 obtain ⟨gr, ⟨KG, hKG⟩, hgr⟩ := great_ev [v] hfit (by simp)
 have hb1 := below_alloc (below_alloc (Below.refl w.heap.size w) (.cells #[.string v.f0, .string v.f1, .slice A v.f2.length c] 24)) (.cells #[.string v.f0, .string v.f1, .slice A v.f2.length c] 24)
 have hT : T1 w w.heap.size v A c ((w.alloc (.cells #[.string v.f0, .string v.f1, .slice A v.f2.length c] 24)).alloc (.cells #[.string v.f0, .string v.f1, .slice A v.f2.length c] 24)) :=
  ⟨hb1, (Below.heap_alloc _ _ _ (by simp)).trans (cells_al _ _ _), hG.below hb1, Kd.C_below hr hb1⟩
 have hC1 : k24.C ((w.alloc (.cells #[.string v.f0, .string v.f1, .slice A v.f2.length c] 24)).alloc (.cells #[.string v.f0, .string v.f1, .slice A v.f2.length c] 24)) (some ⟨w.heap.size + 1, 0, none⟩) 1 [v] :=
  row_one _ _ 24 v A c hc hT.2.2.2 (by have := cells_al (w.alloc (.cells #[.string v.f0, .string v.f1, .slice A v.f2.length c] 24)) #[.string v.f0, .string v.f1, .slice A v.f2.length c] 24; rw [World.size_alloc] at this; exact this)
 have HT := Lib.hid hT
 have HC1 := Lib.hid hC1
 have HGR := Lib.hid hgr
 clear hr hG hb1 hT hC1 hgr
 go_enter Tryz.func11, Tryz.ntmps11
 go_wp2_with fail
 refine (remitterlaw10_Great.calls KG (some ⟨w.heap.size + 1, 0, none⟩) 1 [v] gr _ HC1.out (Nat.le_refl _) (hKG KG (Nat.le_refl _))).mono ?_
 rintro e w2 ⟨rfl, hb2⟩
 have HT2 := Lib.hid (HT.out.step hb2)
 clear hb2 HT HC1
 cases gr with
 | true =>
  go_wp2_with fail
  refine (twakes_any w2 HT2.out.2.2.1).mono ?_
  rintro e w3 ⟨rfl, hb3⟩
  have HT3 := Lib.hid (HT2.out.step hb3)
  clear hb3
  go_wp2_with fail
  go_ret
  exact ⟨rfl, HT3.out.1⟩
 | false =>
  obtain ⟨hcn, hsm⟩ := HGR.out rfl
  have q1 : v.f0.size + v.f1.size < 2000 ∧ smallL v.f2 ∧ cntL v.f2 ≤ 1000 := by
   obtain ⟨a, b, l⟩ := v
   simp only [cntL] at hcn
   simp only [smallL] at hsm
   exact ⟨hsm.1, hsm.2.1, by simp only; omega⟩
  have h1 := q1.1
  have h3 := q1.2.2
  have HS2 := Lib.hid q1.2.1
  clear q1 hsm hcn
  obtain ⟨KP, hKP⟩ := plain_ev 10 (by omega) v (smallT_of 10 v h1 HS2.out h3)
  have aP := Lib.hid (hKP KP (Nat.le_refl _))
  clear hKP hKG
  obtain ⟨c0, c1, c2⟩ := HT2.out.2.1.cells
  go_wp2_with fail
  refine (remitterlaw10_plain.calls KP v.f0 v.f1 A c v.f2 10 (plT 10 v) _ HT2.out.2.2.2 hc aP.out HT2.out.2.2.1).mono ?_
  rintro e w3 ⟨rfl, hb3⟩
  have HT3 := Lib.hid (HT2.out.step hb3)
  clear hb3 HT2 c0 c1 c2 aP
  cases hpl : plT 10 v with
  | false =>
   clear hpl
   go_wp2_with fail
   refine (twakes_any w3 HT3.out.2.2.1).mono ?_
   rintro e w4 ⟨rfl, hb4⟩
   have HT4 := Lib.hid (HT3.out.step hb4)
   clear hb4
   go_wp2_with fail
   go_ret
   exact ⟨rfl, HT4.out.1⟩
  | true =>
   obtain ⟨KD, hKD⟩ := draw_ev x 10 v true hpl h1 HS2.out h3
   obtain ⟨KA, hKA⟩ := attrs_ev (plT_facts hpl)
   obtain ⟨KS, hKS⟩ := same_ev v h3
   have hway := fun hl hz => ways_parse x 9 v hpl (by omega) hl h3 hz
   have aD := Lib.hid (hKD KD (Nat.le_refl _))
   have aA := Lib.hid (hKA KA (Nat.le_refl _))
   have aS := Lib.hid (hKS KS (Nat.le_refl _))
   clear hKD hKA hKS hpl
   rw [← baL_size] at hway
   generalize baL (elG (stW x) (raW x true) v) = B at hway aD
   generalize (v.f2.takeWhile attrB).length = na at hway aA
   have HW := Lib.hid hway
   clear hway
   obtain ⟨c0, c1, c2⟩ := HT3.out.2.1.cells
   go_wp2_with fail
   refine (remitterlaw10_draw.calls KD v.f0 v.f1 A c v.f2 x true B _ HT3.out.2.2.2 hc aD.out HT3.out.2.2.1).mono ?_
   rintro e w4 ⟨rfl, hb4⟩
   have HT4 := Lib.hid (HT3.out.step hb4)
   clear hb4 HT3 c0 c1 c2 aD
   obtain ⟨c0, c1, c2⟩ := HT4.out.2.1.cells
   go_wp2_with fail
   refine (remitterlaw10_attributes.calls KA v.f0 v.f1 A c v.f2 (na : Int) _ HT4.out.2.2.2 hc aA.out).mono ?_
   rintro e w5 ⟨rfl, hb5⟩
   have HT5 := Lib.hid (HT4.out.step hb5)
   clear hb5 HT4 c0 c1 c2 aA
   by_cases hna : 19 < na
   ·
    have g1 : decide ((19 : Int) < (na : Int)) = true := decide_eq_true (by omega)
    have g2 : decide (19 < na) = true := decide_eq_true hna
    go_wp2_with fail
    refine (twakes_any w5 HT5.out.2.2.1).mono ?_
    rintro e w6 ⟨rfl, hb6⟩
    have HT6 := Lib.hid (HT5.out.step hb6)
    clear hb6
    go_wp2_with fail
    go_ret
    exact ⟨rfl, HT6.out.1⟩
   ·
    have g1 : decide ((19 : Int) < (na : Int)) = false := decide_eq_false (by omega)
    have g2 : decide (19 < na) = false := decide_eq_false hna
    by_cases hB : 1048576 < B.size
    ·
     have s1 : decide ((1048576 : Int) < (B.size : Int)) = true := decide_eq_true (by omega)
     have s2 : decide (1048576 < B.size) = true := decide_eq_true hB
     go_wp2_with fail
     refine (twakes_any w5 HT5.out.2.2.1).mono ?_
     rintro e w6 ⟨rfl, hb6⟩
     have HT6 := Lib.hid (HT5.out.step hb6)
     clear hb6
     go_wp2_with fail
     go_ret
     exact ⟨rfl, HT6.out.1⟩
    ·
     have s1 : decide ((1048576 : Int) < (B.size : Int)) = false := decide_eq_false (by omega)
     have s2 : decide (1048576 < B.size) = false := decide_eq_false hB
     have hP := parse_any B w5 (by omega) HT5.out.2.2.1
     rw [HW.out (by omega) (by omega)] at hP
     clear HW
     go_wp2_with fail
     refine hP.mono ?_
     rintro e w6 ⟨A2, c2x, rfl, l2, hC6, hb6⟩
     have HT6 := Lib.hid (HT5.out.step hb6)
     have hU6 : T1 w6 w6.heap.size v A2 c2x (w6.alloc (.cells #[.string v.f0, .string v.f1, .slice A2 v.f2.length c2x] 24)) :=
      ⟨below_alloc (Below.refl _ _) _, cells_al _ _ _, HT6.out.2.2.1.below (below_alloc (Below.refl _ _) _), Kd.C_below hC6 (below_alloc (Below.refl _ _) _)⟩
     have HT7 := Lib.hid (HT6.out.step (below_alloc (Below.refl w6.heap.size w6) (.cells #[.string v.f0, .string v.f1, .slice A2 v.f2.length c2x] 24)))
     have HU7 := Lib.hid hU6
     clear hb6 hC6 hU6 HT6 HT5 hP
     obtain ⟨c0, c1, c2⟩ := HT7.out.2.1.cells
     obtain ⟨d0, d1, d2⟩ := HU7.out.2.1.cells
     dsimp only
     go_wp2_with fail
     refine (remitterref10_Same.yes KS v.f0 v.f1 A c v.f2 v.f0 v.f1 A2 c2x v.f2 _ HT7.out.2.2.2 hc HU7.out.2.2.2 l2 aS.out).mono ?_
     rintro e w8 ⟨rfl, hb8⟩
     have HT8 := Lib.hid (HT7.out.step hb8)
     clear hb8 HT7 HU7 c0 c1 c2 d0 d1 d2
     go_wp2_with fail
     refine (twakes_any w8 HT8.out.2.2.1).mono ?_
     rintro e w9 ⟨rfl, hb9⟩
     have HT9 := Lib.hid (HT8.out.step hb9)
     clear hb9 HT8
     go_wp2_with fail
     go_ret
     exact ⟨rfl, HT9.out.1⟩
theorem treeWays_any (a0 : S24) (A0 : Option Addr) (c0 : Nat) (a1 : Int) (W : World) (g0 : k24.C W A0 a0.f2.length a0.f2) (l0 : a0.f2.length ≤ c0) (f0 : fitL [a0]) (y1 : (Lit.int .u8 a1).wf = true) (hG : P.Glob W) :
  Calls Tryz.prog 11 #[.agg #[.string a0.f0, .string a0.f1, .slice A0 a0.f2.length c0], .int .u8 a1] W fun e w' => e = .returned (.bool true) ∧ Below W.heap.size W w' :=
 ways_any a0 a1 A0 c0 W g0 l0 hG f0
end Go.Proofs.YtknfpggiigncpaaGreatDoor.G
end
section
namespace Go.Proofs.YtknfpggiigncpaaGreatDoor.E
open Go.RowKit Go.ChangeShapes Go.WideShapes Go.Deep
theorem cellsOf24 : Tryz.prog.cellsOf 24 = 3 := by kernel_rfl
theorem cellsOf22 : Tryz.prog.cellsOf 22 = 1 := by kernel_rfl
theorem cellsOf9 : Tryz.prog.cellsOf 9 = 1 := by kernel_rfl
theorem bytesOf24 : Tryz.prog.bytesOf 24 = 56 := by kernel_rfl
theorem fitL_all : ∀ l : List S24, (∀ k ∈ l, fitL [k]) → fitL l
 | [], _ => by simp [fitL]
 | ⟨a, b, q⟩ :: l, h => by
  have h1 := h ⟨a, b, q⟩ List.mem_cons_self
  have h2 := fitL_all l (fun k hk => h k (List.mem_cons_of_mem _ hk))
  simp only [fitL] at h1 ⊢
  exact ⟨h1.1, h1.2.1, h1.2.2.1, h1.2.2.2.1, h2⟩
theorem weightsAll_mem {H : Type} {P : Program} {e : TypeId} : ∀ {l : List (DataW H)} {d : DataW H}, d ∈ l → ∀ n ∈ d.weights P e, n ∈ DataW.weightsAll P e l
 | d0 :: l, d, hd, n, hn => by
  simp only [DataW.weightsAll, List.mem_append]
  rcases List.mem_cons.1 hd with rfl | h
  ·
   exact .inl hn
  ·
   exact .inr (weightsAll_mem h n hn)
theorem len3 {α : Type} : ∀ {l : List α}, l.length = 3 → ∃ a b c, l = [a, b, c]
 | [a, b, c], _ => ⟨a, b, c, rfl⟩
instance : Inhabited S24 := ⟨z24⟩
section
variable {H : Type} {enc : TypeId × Value → H} {w : World} {base : Nat} {sp : Nat → Bool} {held : Bool}
def Light (d : DataW H) : Prop := ∀ n ∈ d.weights Tryz.prog 24, n ≤ 140737488351232
theorem open24 : ∀ (N fuel : Nat), fuel ≤ N → ∀ (cs : List Value) (x : DataW H × List MemPlace), DataW.trod enc Tryz.prog w base sp held fuel 24 cs = some x → Light x.1 →
  ∃ (v : S24) (A : Option Addr) (c : Nat), cs = [.string v.f0, .string v.f1, .slice A v.f2.length c] ∧ v.f2.length ≤ c ∧ k24.C w A v.f2.length v.f2 ∧ fitL [v] := by
 intro N
 induction N with
 | zero =>
  intro fuel hf cs x h
  obtain rfl : fuel = 0 := by omega
  simp [DataW.trod] at h
 | succ N ih =>
  intro fuel hf cs x h hL
  cases fuel with
  | zero => simp [DataW.trod] at h
  | succ fuel =>
   obtain ⟨xs, n, hn, hx, hl, hlen, hfs⟩ := DataW.trod_struct Tryz.underlying24 h
   obtain rfl : fuel = n := by omega
   rw [cellsOf24] at hl
   obtain ⟨y0, y1, y2, rfl⟩ := len3 hlen
   obtain ⟨c0, c1, c2, rfl⟩ := len3 hl
   have h0 : DataW.trod enc Tryz.prog w base sp held fuel 9 [c0] = some y0 := by have := hfs 0 _ rfl; simpa [cellsOf9] using this
   have h1 : DataW.trod enc Tryz.prog w base sp held fuel 9 [c1] = some y1 := by have := hfs 1 _ rfl; simpa [cellsOf9] using this
   have h2 : DataW.trod enc Tryz.prog w base sp held fuel 22 [c2] = some y2 := by have := hfs 2 _ rfl; simpa [cellsOf22] using this
   obtain ⟨s0, e0, hy0, _⟩ := DataW.trod_string Tryz.underlying9 h0
   obtain ⟨s1, e1, hy1, _⟩ := DataW.trod_string Tryz.underlying9 h1
   have hw : x.1.weights Tryz.prog 24 = y0.1.weights Tryz.prog 9 ++ (y1.1.weights Tryz.prog 9 ++ (y2.1.weights Tryz.prog 22 ++ [])) := by
    rw [hx]
    simp only [DataW.weights, Tryz.underlying24, List.map_cons, List.map_nil, DataW.weightsEach]
   have w0 : s0.size ≤ 140737488351232 := by
    refine hL _ ?_
    rw [hw, hy0]
    simp [DataW.weights]
   have w1 : s1.size ≤ 140737488351232 := by
    refine hL _ ?_
    rw [hw, hy1]
    simp [DataW.weights]
   rcases DataW.trod_slice Tryz.underlying22 h2 with ⟨e2, hy2⟩ | ⟨a, len, cap, elems, rest, m, hm, e2, hy2, hb, hlc, hcm, hel, hat, _, _⟩
   ·
    refine ⟨⟨s0, s1, []⟩, none, 0, ?_, Nat.le_refl _, C_nil _ _ _, ?_⟩
    ·
     have a0 := List.singleton_inj.1 e0
     have a1 := List.singleton_inj.1 e1
     have a2 := List.singleton_inj.1 e2
     rw [a0, a1, a2]
     rfl
    ·
     simp only [fitL]
     exact ⟨by omega, by omega, by simp, trivial, trivial⟩
   ·
    have hwl : (elems.length + rest.length) * 56 ≤ 140737488351232 := by
     refine hL _ ?_
     rw [hw, hy2]
     simp [DataW.weights, Tryz.underlying22, bytesOf24]
    have each : ∀ i, i < len → ∃ (u : S24) (c : List Value), k24.K w u c ∧ c.length = 3 ∧ (∀ j q, c[j]? = some q → w.cell? (a.add (i * 3 + j)) = some q) ∧ fitL [u] := by
     intro i hi
     have hE := hat i hi
     rw [cellsOf24] at hE
     have hei : elems[i]? = some (elems[i]'(by omega)) := List.getElem?_eq_getElem (by omega)
     rw [hei] at hE
     obtain ⟨c, hc1, hc2⟩ := Option.bind_eq_some_iff.1 hE
     obtain ⟨u, A, cc, hcs, hlu, hCu, hfu⟩ := ih m (by omega) c _ hc2 (by
      intro n hn
      refine hL n ?_
      rw [hw, hy2]
      simp only [DataW.weights, Tryz.underlying22, List.mem_append, List.mem_cons]
      exact .inr (.inr (.inl (.inr (.inl (weightsAll_mem (List.mem_map.2 ⟨_, List.getElem_mem (by omega), rfl⟩) n hn))))))
     refine ⟨u, c, ?_, ?_, ?_, hfu⟩
     ·
      rw [hcs]; exact k24_mk w u hlu hCu
     ·
      rw [hcs]; rfl
     ·
      intro j q hj
      obtain ⟨_, hcl, hce⟩ := World.cells?_some hc1
      have hj3 : j < 3 := by have := (List.getElem?_eq_some_iff.1 hj).1; omega
      rw [← hj, ← hce j hj3, add_add]
    obtain ⟨U, hU⟩ := choose_lt each
    have hll : ((List.range len).map U).length = len := by simp
    refine ⟨⟨s0, s1, (List.range len).map U⟩, some a, cap, ?_, by rw [hll]; exact hlc, ?_, ?_⟩
    ·
     have a0 := List.singleton_inj.1 e0
     have a1 := List.singleton_inj.1 e1
     have a2 := List.singleton_inj.1 e2
     rw [a0, a1, a2, hll]
    ·
     show k24.C w (some a) ((List.range len).map U).length ((List.range len).map U)
     rw [hll]
     refine ⟨hll, by omega, fun _ => ⟨a, rfl, fun j p hj => ?_⟩⟩
     have hjl : j < len := by have := (List.getElem?_eq_some_iff.1 hj).1; rw [hll] at this; exact this
     have hp : p = U j := by
      rw [List.getElem?_map, List.getElem?_range hjl] at hj
      exact (Option.some.inj hj).symm
     subst hp
     obtain ⟨c, q1, q2, q3, _⟩ := hU j hjl
     exact ⟨c, q2, q1, fun i u hu => q3 i u hu⟩
    ·
     simp only [fitL]
     refine ⟨by omega, by omega, by rw [hll]; omega, fitL_all _ fun k hk => ?_, trivial⟩
     obtain ⟨j, hj, rfl⟩ := List.mem_map.1 hk
     exact (hU j (List.mem_range.1 hj)).choose_spec.2.2.2
theorem open_val {r : Reach} {b0 : Nat} {v : Value} {d : DataW H} {ps : List MemPlace} (hval : Value.okWide Tryz.prog w r b0 24 v) (hd : DataW.Trod enc Tryz.prog w base sp held 24 v d ps) (hL : Light d) :
  ∃ (a : S24) (A : Option Addr) (c : Nat), v = .agg #[.string a.f0, .string a.f1, .slice A a.f2.length c] ∧ a.f2.length ≤ c ∧ k24.C w A a.f2.length a.f2 ∧ fitL [a] := by
 unfold Value.okWide at hval
 rw [Tryz.underlying24] at hval
 obtain ⟨cs, rfl, _, _⟩ := hval
 obtain ⟨fuel, hf⟩ := hd
 obtain ⟨a, A, c, hcs, h1, h2, h3⟩ := open24 fuel fuel (Nat.le_refl _) _ _ hf hL
 refine ⟨a, A, c, ?_, h1, h2, h3⟩
 simp [Value.cells] at hcs
 obtain ⟨l⟩ := cs
 simp only at hcs
 rw [hcs]
end
end Go.Proofs.YtknfpggiigncpaaGreatDoor.E
end
section
namespace Go.Proofs.YtknfpggiigncpaaGreatDoor.P
open Go.RowKit
theorem u8extra : Go.Proofs.U8Extra Tryz.prog Tryz.lays260_ren := ⟨by kernel_rfl, by kernel_rfl, by kernel_rfl, by kernel_rfl, by kernel_rfl, by kernel_rfl, by kernel_rfl⟩
theorem first_is : Rows.laid_unicode_utf8_first = Go.Lib.firstData := by kernel_rfl
theorem accept_is : (Rows.laid_unicode_utf8_acceptRanges : DataW Unit) = Go.Lib.acceptData := by kernel_rfl
theorem err_of_reads {W : World} {name : String} {g : Nat} {n : String} {d : DataW Unit} (hg : Tryz.prog.globalNamed name = some g) (ht : (Tryz.prog.globals[g]?).map (·.type) = some 68) (h : Lib.VarReads Tryz.prog W name (.iface n d)) : HasErr W g := by
 obtain ⟨g', t, cs, fuel, p, hg', hty, hvar, hd⟩ := h
 obtain rfl := Option.some.inj (hg.symm.trans hg')
 obtain rfl := Option.some.inj (ht.symm.trans hty)
 have hc := World.var?_cell hg hvar 0
 cases fuel with
 | zero => simp [DataW.trod] at hd
 | succ fuel =>
  have hk : (Tryz.prog.underlying 68).map (fun | .interface _ => true | _ => false) = some true := by kernel_rfl
  obtain ⟨m, hu⟩ : ∃ m, Tryz.prog.underlying 68 = some (.interface m) := by
   cases hq : Tryz.prog.underlying 68 with
   | none => rw [hq] at hk; cases hk
   | some x =>
    rw [hq] at hk
    cases x <;> first | exact ⟨_, rfl⟩ | (simp at hk)
  have hl0 : cs[0]? = cs.toList[0]? := by simp
  rw [hl0] at hc
  generalize cs.toList = l at hd hc
  unfold DataW.trod at hd
  rw [hu] at hd
  match l, hd, hc with
  | [], hd, _ => simp at hd
  | v :: u :: r, hd, _ => simp at hd
  | [v], hd, hc =>
   cases v with
   | iface u x => exact ⟨_, hc, .inr ⟨u, x, rfl⟩⟩
   | nilIface => simp at hd
   | _ => simp at hd
theorem glob_of {L : List (String × DataW Unit)} {W : World} (hL : laidMet Tryz.prog L W) (hS : W.ShapedOpen Tryz.prog)
  (m1 : ("unicode/utf8.first", Rows.laid_unicode_utf8_first) ∈ L) (m2 : ("unicode/utf8.acceptRanges", Rows.laid_unicode_utf8_acceptRanges) ∈ L)
  (m3 : ("strconv.ErrSyntax", Rows.laid_strconv_ErrSyntax) ∈ L) (m4 : ("strconv.ErrRange", Rows.laid_strconv_ErrRange) ∈ L) : Glob W := by
 refine ⟨?_, ?_, ?_, ?_⟩
 ·
  have h1 := Lib.laidMet.reads hL m1
  have h2 := Lib.laidMet.reads hL m2
  rw [first_is] at h1
  rw [accept_is] at h2
  exact utf8Tabs_of_reads Tryz.lays260 u8extra h1 h2
 ·
  exact Tryz.laysM138.s1_3 W hS
 ·
  exact err_of_reads (by kernel_rfl) (by kernel_rfl) (Lib.laidMet.reads hL m3)
 ·
  exact err_of_reads (by kernel_rfl) (by kernel_rfl) (Lib.laidMet.reads hL m4)
def flat1 : DataW Unit → List Value
 | .lit (.int k n) => [.int k n]
 | _ => []
def flat2 : DataW Unit → List Value
 | .agg xs => xs.flatMap flat1
 | d => flat1 d
def flat3 : DataW Unit → Array Value
 | .agg xs => (xs.flatMap flat2).toArray
 | _ => #[]
def putCells (cs : Array Value) : Obj → Obj
 | .cells _ t frozen => .cells cs t frozen
 | o => o
def textS : ByteArray := ⟨#[105, 110, 118, 97, 108, 105, 100, 32, 115, 121, 110, 116, 97, 120]⟩
def textR : ByteArray := ⟨#[118, 97, 108, 117, 101, 32, 111, 117, 116, 32, 111, 102, 32, 114, 97, 110, 103, 101]⟩
noncomputable def low : Nat := (World.holding Tryz.prog default ⟨#[], #[], []⟩).heap.size
noncomputable def laidWorld (os : Os) : World :=
 let w0 := World.holding Tryz.prog os ⟨#[.cells #[.string textS] 262, .cells #[.string textR] 262], #[], []⟩
 { w0 with heap := ((((((w0.heap.modify 0 (putCells (flat3 Rows.laid_unicode_utf8_first))).modify 1 (putCells (flat3 Rows.laid_unicode_utf8_acceptRanges))).modify 3 (putCells #[.iface 260 (.pointer (some ⟨low, 0, none⟩))])).modify 4 (putCells #[.iface 260 (.pointer (some ⟨low + 1, 0, none⟩))])).modify 5 (putCells (flat3 Rows.laid_internal_strconv_uint64pow10))).modify 6 (putCells (flat3 Rows.laid_math_bits_deBruijn32tab))).modify 7 (putCells (flat3 Rows.laid_math_bits_deBruijn64tab)) }
end Go.Proofs.YtknfpggiigncpaaGreatDoor.P
end
