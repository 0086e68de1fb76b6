/- From the rows' cell 'laid' to what the walks ask of the library's variables; a world that holds them, for the rows' witness. -/
import Derived.Test.YtknfpggiigncpaaGreatDoorXReg
import Derived.Deep.Strs
import Derived.SizedLaws
import Derived.DataReads
import Derived.Test.YtknfpggiigncpaaGreatDoorRows
import Derived.Test.YtknfpggiigncpaaGreatDoorAx1
import Derived.Test.YtknfpggiigncpaaGreatDoorShelf
import Derived.WalkKit
import Derived.ProofKit
import Derived.OpenShut
import Derived.LaidLaws
import Derived.Lib.LaidU8
set_option maxRecDepth 100000
set_option linter.unusedVariables false
set_option linter.unusedSimpArgs false
section
namespace Go.Proofs.YtknfpggiigncpaaGreatDoor.E
open Go.RowKit Go.ChangeShapes Go.WideShapes Go.Deep
theorem cellsOf24 : Tryz.prog.cellsOf 24 = 3 := by kernel_rfl
theorem cellsOf22 : Tryz.prog.cellsOf 22 = 1 := by kernel_rfl
theorem cellsOf9 : Tryz.prog.cellsOf 9 = 1 := by kernel_rfl
theorem bytesOf24 : Tryz.prog.bytesOf 24 = 56 := by kernel_rfl
theorem fitL_all : ∀ l : List S24, (∀ k ∈ l, fitL [k]) → fitL l
 | [], _ => by simp [fitL]
 | ⟨a, b, q⟩ :: l, h => by
  have h1 := h ⟨a, b, q⟩ List.mem_cons_self
  have h2 := fitL_all l (fun k hk => h k (List.mem_cons_of_mem _ hk))
  simp only [fitL] at h1 ⊢
  exact ⟨h1.1, h1.2.1, h1.2.2.1, h1.2.2.2.1, h2⟩
theorem weightsAll_mem {H : Type} {P : Program} {e : TypeId} : ∀ {l : List (DataW H)} {d : DataW H}, d ∈ l → ∀ n ∈ d.weights P e, n ∈ DataW.weightsAll P e l
 | d0 :: l, d, hd, n, hn => by
  simp only [DataW.weightsAll, List.mem_append]
  rcases List.mem_cons.1 hd with rfl | h
  ·
   exact .inl hn
  ·
   exact .inr (weightsAll_mem h n hn)
theorem len3 {α : Type} : ∀ {l : List α}, l.length = 3 → ∃ a b c, l = [a, b, c]
 | [a, b, c], _ => ⟨a, b, c, rfl⟩
instance : Inhabited S24 := ⟨z24⟩
section
variable {H : Type} {enc : TypeId × Value → H} {w : World} {base : Nat} {sp : Nat → Bool} {held : Bool}
def Light (d : DataW H) : Prop := ∀ n ∈ d.weights Tryz.prog 24, n ≤ 140737488351232
theorem open24 : ∀ (N fuel : Nat), fuel ≤ N → ∀ (cs : List Value) (x : DataW H × List MemPlace), DataW.trod enc Tryz.prog w base sp held fuel 24 cs = some x → Light x.1 →
  ∃ (v : S24) (A : Option Addr) (c : Nat), cs = [.string v.f0, .string v.f1, .slice A v.f2.length c] ∧ v.f2.length ≤ c ∧ k24.C w A v.f2.length v.f2 ∧ fitL [v] := by
 intro N
 induction N with
 | zero =>
  intro fuel hf cs x h
  obtain rfl : fuel = 0 := by omega
  simp [DataW.trod] at h
 | succ N ih =>
  intro fuel hf cs x h hL
  cases fuel with
  | zero => simp [DataW.trod] at h
  | succ fuel =>
   obtain ⟨xs, n, hn, hx, hl, hlen, hfs⟩ := DataW.trod_struct Tryz.underlying24 h
   obtain rfl : fuel = n := by omega
   rw [cellsOf24] at hl
   obtain ⟨y0, y1, y2, rfl⟩ := len3 hlen
   obtain ⟨c0, c1, c2, rfl⟩ := len3 hl
   have h0 : DataW.trod enc Tryz.prog w base sp held fuel 9 [c0] = some y0 := by have := hfs 0 _ rfl; simpa [cellsOf9] using this
   have h1 : DataW.trod enc Tryz.prog w base sp held fuel 9 [c1] = some y1 := by have := hfs 1 _ rfl; simpa [cellsOf9] using this
   have h2 : DataW.trod enc Tryz.prog w base sp held fuel 22 [c2] = some y2 := by have := hfs 2 _ rfl; simpa [cellsOf22] using this
   obtain ⟨s0, e0, hy0, _⟩ := DataW.trod_string Tryz.underlying9 h0
   obtain ⟨s1, e1, hy1, _⟩ := DataW.trod_string Tryz.underlying9 h1
   have hw : x.1.weights Tryz.prog 24 = y0.1.weights Tryz.prog 9 ++ (y1.1.weights Tryz.prog 9 ++ (y2.1.weights Tryz.prog 22 ++ [])) := by
    rw [hx]
    simp only [DataW.weights, Tryz.underlying24, List.map_cons, List.map_nil, DataW.weightsEach]
   have w0 : s0.size ≤ 140737488351232 := by
    refine hL _ ?_
    rw [hw, hy0]
    simp [DataW.weights]
   have w1 : s1.size ≤ 140737488351232 := by
    refine hL _ ?_
    rw [hw, hy1]
    simp [DataW.weights]
   rcases DataW.trod_slice Tryz.underlying22 h2 with ⟨e2, hy2⟩ | ⟨a, len, cap, elems, rest, m, hm, e2, hy2, hb, hlc, hcm, hel, hat, _, _⟩
   ·
    refine ⟨⟨s0, s1, []⟩, none, 0, ?_, Nat.le_refl _, C_nil _ _ _, ?_⟩
    ·
     have a0 := List.singleton_inj.1 e0
     have a1 := List.singleton_inj.1 e1
     have a2 := List.singleton_inj.1 e2
     rw [a0, a1, a2]
     rfl
    ·
     simp only [fitL]
     exact ⟨by omega, by omega, by simp, trivial, trivial⟩
   ·
    have hwl : (elems.length + rest.length) * 56 ≤ 140737488351232 := by
     refine hL _ ?_
     rw [hw, hy2]
     simp [DataW.weights, Tryz.underlying22, bytesOf24]
    have each : ∀ i, i < len → ∃ (u : S24) (c : List Value), k24.K w u c ∧ c.length = 3 ∧ (∀ j q, c[j]? = some q → w.cell? (a.add (i * 3 + j)) = some q) ∧ fitL [u] := by
     intro i hi
     have hE := hat i hi
     rw [cellsOf24] at hE
     have hei : elems[i]? = some (elems[i]'(by omega)) := List.getElem?_eq_getElem (by omega)
     rw [hei] at hE
     obtain ⟨c, hc1, hc2⟩ := Option.bind_eq_some_iff.1 hE
     obtain ⟨u, A, cc, hcs, hlu, hCu, hfu⟩ := ih m (by omega) c _ hc2 (by
      intro n hn
      refine hL n ?_
      rw [hw, hy2]
      simp only [DataW.weights, Tryz.underlying22, List.mem_append, List.mem_cons]
      exact .inr (.inr (.inl (.inr (.inl (weightsAll_mem (List.mem_map.2 ⟨_, List.getElem_mem (by omega), rfl⟩) n hn))))))
     refine ⟨u, c, ?_, ?_, ?_, hfu⟩
     ·
      rw [hcs]; exact k24_mk w u hlu hCu
     ·
      rw [hcs]; rfl
     ·
      intro j q hj
      obtain ⟨_, hcl, hce⟩ := World.cells?_some hc1
      have hj3 : j < 3 := by have := (List.getElem?_eq_some_iff.1 hj).1; omega
      rw [← hj, ← hce j hj3, add_add]
    obtain ⟨U, hU⟩ := choose_lt each
    have hll : ((List.range len).map U).length = len := by simp
    refine ⟨⟨s0, s1, (List.range len).map U⟩, some a, cap, ?_, by rw [hll]; exact hlc, ?_, ?_⟩
    ·
     have a0 := List.singleton_inj.1 e0
     have a1 := List.singleton_inj.1 e1
     have a2 := List.singleton_inj.1 e2
     rw [a0, a1, a2, hll]
    ·
     show k24.C w (some a) ((List.range len).map U).length ((List.range len).map U)
     rw [hll]
     refine ⟨hll, by omega, fun _ => ⟨a, rfl, fun j p hj => ?_⟩⟩
     have hjl : j < len := by have := (List.getElem?_eq_some_iff.1 hj).1; rw [hll] at this; exact this
     have hp : p = U j := by
      rw [List.getElem?_map, List.getElem?_range hjl] at hj
      exact (Option.some.inj hj).symm
     subst hp
     obtain ⟨c, q1, q2, q3, _⟩ := hU j hjl
     exact ⟨c, q2, q1, fun i u hu => q3 i u hu⟩
    ·
     simp only [fitL]
     refine ⟨by omega, by omega, by rw [hll]; omega, fitL_all _ fun k hk => ?_, trivial⟩
     obtain ⟨j, hj, rfl⟩ := List.mem_map.1 hk
     exact (hU j (List.mem_range.1 hj)).choose_spec.2.2.2
theorem open_val {r : Reach} {b0 : Nat} {v : Value} {d : DataW H} {ps : List MemPlace} (hval : Value.okWide Tryz.prog w r b0 24 v) (hd : DataW.Trod enc Tryz.prog w base sp held 24 v d ps) (hL : Light d) :
  ∃ (a : S24) (A : Option Addr) (c : Nat), v = .agg #[.string a.f0, .string a.f1, .slice A a.f2.length c] ∧ a.f2.length ≤ c ∧ k24.C w A a.f2.length a.f2 ∧ fitL [a] := by
 unfold Value.okWide at hval
 rw [Tryz.underlying24] at hval
 obtain ⟨cs, rfl, _, _⟩ := hval
 obtain ⟨fuel, hf⟩ := hd
 obtain ⟨a, A, c, hcs, h1, h2, h3⟩ := open24 fuel fuel (Nat.le_refl _) _ _ hf hL
 refine ⟨a, A, c, ?_, h1, h2, h3⟩
 simp [Value.cells] at hcs
 obtain ⟨l⟩ := cs
 simp only at hcs
 rw [hcs]
end
end Go.Proofs.YtknfpggiigncpaaGreatDoor.E
end
section
namespace Go.Proofs.YtknfpggiigncpaaGreatDoor.P
open Go.RowKit
theorem u8extra : Go.Proofs.U8Extra Tryz.prog Tryz.lays260_ren := ⟨by kernel_rfl, by kernel_rfl, by kernel_rfl, by kernel_rfl, by kernel_rfl, by kernel_rfl, by kernel_rfl⟩
theorem first_is : Rows.laid_unicode_utf8_first = Go.Lib.firstData := by kernel_rfl
theorem accept_is : (Rows.laid_unicode_utf8_acceptRanges : DataW Unit) = Go.Lib.acceptData := by kernel_rfl
theorem err_of_reads {W : World} {name : String} {g : Nat} {n : String} {d : DataW Unit} (hg : Tryz.prog.globalNamed name = some g) (ht : (Tryz.prog.globals[g]?).map (·.type) = some 68) (h : Lib.VarReads Tryz.prog W name (.iface n d)) : HasErr W g := by
 obtain ⟨g', t, cs, fuel, p, hg', hty, hvar, hd⟩ := h
 obtain rfl := Option.some.inj (hg.symm.trans hg')
 obtain rfl := Option.some.inj (ht.symm.trans hty)
 have hc := World.var?_cell hg hvar 0
 cases fuel with
 | zero => simp [DataW.trod] at hd
 | succ fuel =>
  have hk : (Tryz.prog.underlying 68).map (fun | .interface _ => true | _ => false) = some true := by kernel_rfl
  obtain ⟨m, hu⟩ : ∃ m, Tryz.prog.underlying 68 = some (.interface m) := by
   cases hq : Tryz.prog.underlying 68 with
   | none => rw [hq] at hk; cases hk
   | some x =>
    rw [hq] at hk
    cases x <;> first | exact ⟨_, rfl⟩ | (simp at hk)
  have hl0 : cs[0]? = cs.toList[0]? := by simp
  rw [hl0] at hc
  generalize cs.toList = l at hd hc
  unfold DataW.trod at hd
  rw [hu] at hd
  match l, hd, hc with
  | [], hd, _ => simp at hd
  | v :: u :: r, hd, _ => simp at hd
  | [v], hd, hc =>
   cases v with
   | iface u x => exact ⟨_, hc, .inr ⟨u, x, rfl⟩⟩
   | nilIface => simp at hd
   | _ => simp at hd
theorem glob_of {L : List (String × DataW Unit)} {W : World} (hL : laidMet Tryz.prog L W) (hS : W.ShapedOpen Tryz.prog)
  (m1 : ("unicode/utf8.first", Rows.laid_unicode_utf8_first) ∈ L) (m2 : ("unicode/utf8.acceptRanges", Rows.laid_unicode_utf8_acceptRanges) ∈ L)
  (m3 : ("strconv.ErrSyntax", Rows.laid_strconv_ErrSyntax) ∈ L) (m4 : ("strconv.ErrRange", Rows.laid_strconv_ErrRange) ∈ L) : Glob W := by
 refine ⟨?_, ?_, ?_, ?_⟩
 ·
  have h1 := Lib.laidMet.reads hL m1
  have h2 := Lib.laidMet.reads hL m2
  rw [first_is] at h1
  rw [accept_is] at h2
  exact utf8Tabs_of_reads Tryz.lays260 u8extra h1 h2
 ·
  exact Tryz.laysM138.s1_3 W hS
 ·
  exact err_of_reads (by kernel_rfl) (by kernel_rfl) (Lib.laidMet.reads hL m3)
 ·
  exact err_of_reads (by kernel_rfl) (by kernel_rfl) (Lib.laidMet.reads hL m4)
def flat1 : DataW Unit → List Value
 | .lit (.int k n) => [.int k n]
 | _ => []
def flat2 : DataW Unit → List Value
 | .agg xs => xs.flatMap flat1
 | d => flat1 d
def flat3 : DataW Unit → Array Value
 | .agg xs => (xs.flatMap flat2).toArray
 | _ => #[]
def putCells (cs : Array Value) : Obj → Obj
 | .cells _ t frozen => .cells cs t frozen
 | o => o
def textS : ByteArray := ⟨#[105, 110, 118, 97, 108, 105, 100, 32, 115, 121, 110, 116, 97, 120]⟩
def textR : ByteArray := ⟨#[118, 97, 108, 117, 101, 32, 111, 117, 116, 32, 111, 102, 32, 114, 97, 110, 103, 101]⟩
noncomputable def low : Nat := (World.holding Tryz.prog default ⟨#[], #[], []⟩).heap.size
noncomputable def laidWorld (os : Os) : World :=
 let w0 := World.holding Tryz.prog os ⟨#[.cells #[.string textS] 262, .cells #[.string textR] 262], #[], []⟩
 { w0 with heap := ((((((w0.heap.modify 0 (putCells (flat3 Rows.laid_unicode_utf8_first))).modify 1 (putCells (flat3 Rows.laid_unicode_utf8_acceptRanges))).modify 3 (putCells #[.iface 260 (.pointer (some ⟨low, 0, none⟩))])).modify 4 (putCells #[.iface 260 (.pointer (some ⟨low + 1, 0, none⟩))])).modify 5 (putCells (flat3 Rows.laid_internal_strconv_uint64pow10))).modify 6 (putCells (flat3 Rows.laid_math_bits_deBruijn32tab))).modify 7 (putCells (flat3 Rows.laid_math_bits_deBruijn64tab)) }
end Go.Proofs.YtknfpggiigncpaaGreatDoor.P
end
