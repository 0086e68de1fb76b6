/- mtspec.Table, walked by hand. -/
import Derived.Laws.EntriesVeiled
import Derived.Test.YtepphihcggppbaaDoorMt1
set_option linter.unusedVariables false
set_option linter.unusedSimpArgs false
namespace Go.Proofs.YtepphihcggppbaaDoor.A
open Go.RowKit Go.Shelf Go.Proofs.MapLit Go.Proofs.YtepphihcggppbaaDoorW.PrintWords Go.Proofs.YtepphihcggppbaaDoorW.PrintLast Go.Proofs.YtepphihcggppbaaDoorW.PrintMore
attribute [local go_sem] Oper.semAt_some

def cells3 : Array Value := (leaves3.flatMap fun s => [Value.string s.f0, .int .i64 s.f1, .int .i64 s.f2, .string s.f3, .slice none 0 0, .bool s.f5]).toArray
/-- The three leaves that each table begins with, where they are laid. -/
theorem leaves_R (W : World) (n0 : Nat) (g : Nat) (hn : n0 ≤ g) (h : W.heap[g]? = some (.cells cells3 24 (0, 0))) : k24.R 24 W n0 (fun k => k = g) (.slice (some ⟨g, 0, none⟩) 3 3) leaves3 := by
  refine ⟨fun k hk => by cases hk; rfl, cells3.toList, ⟨rfl, .inr ⟨g, 3, cells3, rfl, hn, h, Nat.le_refl _, by decide, rfl, rfl⟩⟩, rfl, ?_⟩
  intro i p hp
  rcases i with _ | _ | _ | i
  · obtain rfl := Option.some.inj hp
    exact k24_mkM _ _ _ _ (Kd.R_nil _ _ _ _ _)
  · obtain rfl := Option.some.inj hp
    exact k24_mkM _ _ _ _ (Kd.R_nil _ _ _ _ _)
  · obtain rfl := Option.some.inj hp
    exact k24_mkM _ _ _ _ (Kd.R_nil _ _ _ _ _)
  · cases hp
theorem results6 {g : Nat} {s : S24} {v : Value} {b : Bool} {w : World} (h : Sbox w g s v) (tmps : Array Value) (h2 : tmps.getD 2 undef = .pointer (some ⟨g, 0, none⟩)) (h3 : tmps.getD 3 undef = .bool b) :
    (results Tryd.f6 tmps).run Tryd.prog w = .ok (.tuple #[specV s v, .bool b]) w := by
  obtain ⟨k0, k1, k2, k3, k4, k5⟩ := h.cells
  rw [Array.getD_eq_getD_getElem?] at h2 h3
  simp [results, Tryd.results6, go_sem, h2, h3, k0, k1, k2, k3, k4, k5, specV]
def takeV (gr gg gn go gp : Nat) : Value := .func (.func 25) #[] #[.pointer (some ⟨go, 0, none⟩), .pointer (some ⟨gn, 0, none⟩), .pointer (some ⟨gg, 0, none⟩), .pointer (some ⟨gp, 0, none⟩)]
/-- A change of what is no cells leaves all that take knows. -/
theorem Rep.grow {W W' : World} {n0 gr gg gn go gp : Nat} {st : St} {gs : S24} {A B : Nat → Prop} {rv gv nv : Value} (h : Rep W n0 gr gg gn go gp st gs A B rv gv nv) (hs : W.heap.size ≤ W'.heap.size) (hm : ∀ (k t : Nat) (c : Array Value) (fr : Nat × Nat), W.heap[k]? = some (.cells c t fr) → W'.heap[k]? = W.heap[k]?) :
    Rep W' n0 gr gg gn go gp st gs A B rv gv nv :=
  ⟨h.lo, h.ne, (hm _ _ _ _ h.rb).trans h.rb, (hm _ _ _ _ h.gb).trans h.gb, (hm _ _ _ _ h.nb).trans h.nb, (hm _ _ _ _ h.ob).trans h.ob, (hm _ _ _ _ h.pb).trans h.pb,
   h.num.stay hs (fun k hk => by obtain ⟨c, hc⟩ := h.num.typed k hk; exact hm _ _ _ _ hc), Kd.R_step h.rr (fun k hk _ => by obtain ⟨c, hc⟩ := (h.ta k hk).2; exact hm _ _ _ _ hc),
   fun g hg => ⟨(h.gl g hg).1, Kd.R_step (h.gl g hg).2 (fun k hk _ => by obtain ⟨c, hc⟩ := (h.tb k hk).2; exact hm _ _ _ _ hc)⟩,
   fun k hk => ⟨(h.ta k hk).1, by obtain ⟨c, hc⟩ := (h.ta k hk).2; exact ⟨c, (hm _ _ _ _ hc).trans hc⟩⟩, fun k hk => ⟨(h.tb k hk).1, by obtain ⟨c, hc⟩ := (h.tb k hk).2; exact ⟨c, (hm _ _ _ _ hc).trans hc⟩⟩⟩
/-- The world in which the closures are laid. -/
def bootW (W : World) (r : ByteArray) : World :=
  ((((((W.alloc (.cells cells3 24)).alloc (.cells #[.string r, .int .i64 1, .int .i64 1, .string ⟨#[]⟩, .slice (some ⟨W.heap.size, 0, none⟩) 3 3, .bool false] 24)).alloc (.cells #[.string ⟨#[]⟩, .int .i64 0, .int .i64 0, .string ⟨#[]⟩, .slice none 0 0, .bool false] 24)).alloc (.cells #[.slice none 0 0] 49)).alloc (.cells #[.bool false] 4)).alloc
    (.cells #[putV (W.heap.size + 1) (W.heap.size + 1 + 1) (W.heap.size + 1 + 1 + 1 + 1)] 50)).alloc (.cells #[takeV (W.heap.size + 1) (W.heap.size + 1 + 1) (W.heap.size + 1 + 1 + 1) (W.heap.size + 1 + 1 + 1 + 1) (W.heap.size + 1 + 1 + 1 + 1 + 1)] 56)
theorem boot_at (W : World) (r : ByteArray) : (bootW W r).heap[W.heap.size]? = some (.cells cells3 24 (0, 0)) ∧ Sbox (bootW W r) (W.heap.size + 1) ⟨r, 1, 1, ⟨#[]⟩, leaves3, false⟩ (.slice (some ⟨W.heap.size, 0, none⟩) 3 3) ∧ Sbox (bootW W r) (W.heap.size + 1 + 1) z24 (.slice none 0 0) ∧
    (bootW W r).heap[W.heap.size + 1 + 1 + 1]? = some (.cells #[.slice none 0 0] 49 (0, 0)) ∧ (bootW W r).heap[W.heap.size + 1 + 1 + 1 + 1]? = some (.cells #[.bool false] 4 (0, 0)) ∧
    (bootW W r).heap[W.heap.size + 1 + 1 + 1 + 1 + 1]? = some (.cells #[putV (W.heap.size + 1) (W.heap.size + 1 + 1) (W.heap.size + 1 + 1 + 1 + 1)] 50 (0, 0)) ∧
    (bootW W r).heap[W.heap.size + 1 + 1 + 1 + 1 + 1 + 1]? = some (.cells #[takeV (W.heap.size + 1) (W.heap.size + 1 + 1) (W.heap.size + 1 + 1 + 1) (W.heap.size + 1 + 1 + 1 + 1) (W.heap.size + 1 + 1 + 1 + 1 + 1)] 56 (0, 0)) ∧ Below W.heap.size W (bootW W r) ∧ (bootW W r).heap.size = W.heap.size + 7 := by
  have new : ∀ (X : World) (o : Obj) (n : Nat), n = X.heap.size → (X.alloc o).heap[n]? = some o := fun X o n hn => by rw [hn]; exact World.alloc_heap_new X o
  have old : ∀ (X : World) (o x : Obj) (n : Nat), X.heap[n]? = some x → (X.alloc o).heap[n]? = some x := fun X o x n h => (Below.heap_alloc X o n (tlt h)).trans h
  unfold Sbox bootW
  refine ⟨?_, ?_, ?_, ?_, ?_, ?_, ?_, ?_, by simp⟩
  · exact old _ _ _ _ (old _ _ _ _ (old _ _ _ _ (old _ _ _ _ (old _ _ _ _ (old _ _ _ _ (new _ _ _ rfl))))))
  · exact old _ _ _ _ (old _ _ _ _ (old _ _ _ _ (old _ _ _ _ (old _ _ _ _ (new _ _ _ (by simp))))))
  · exact old _ _ _ _ (old _ _ _ _ (old _ _ _ _ (old _ _ _ _ (new _ _ _ (by simp)))))
  · exact old _ _ _ _ (old _ _ _ _ (old _ _ _ _ (new _ _ _ (by simp))))
  · exact old _ _ _ _ (old _ _ _ _ (new _ _ _ (by simp)))
  · exact old _ _ _ _ (new _ _ _ (by simp))
  · exact new _ _ _ (by simp)
  · exact below_alloc (below_alloc (below_alloc (below_alloc (below_alloc (below_alloc (below_alloc (Below.refl _ _) _) _) _) _) _) _) _
theorem boot_rep (W : World) (k : Int) : Rep (bootW W ((⟨#[77, 84]⟩ : ByteArray) ++ numB k)) W.heap.size (W.heap.size + 1) (W.heap.size + 1 + 1) (W.heap.size + 1 + 1 + 1) (W.heap.size + 1 + 1 + 1 + 1) (W.heap.size + 1 + 1 + 1 + 1 + 1) (st0 k) z24 (fun j => j = W.heap.size) (fun _ => False) (.slice (some ⟨W.heap.size, 0, none⟩) 3 3) (.slice none 0 0) (.slice none 0 0) := by
  obtain ⟨b0, b1, b2, b3, b4, b5, b6, b7, b8⟩ := boot_at W ((⟨#[77, 84]⟩ : ByteArray) ++ numB k)
  exact ⟨⟨by omega, by omega, by omega, by omega, by omega⟩, by omega, b1, b2, b3, b4, b5, rfl, leaves_R _ _ _ (Nat.le_refl _) b0, fun g hg => (by cases hg), fun j hj => ⟨⟨fun h => h, by omega, by omega⟩, by rw [hj]; exact ⟨_, b0⟩⟩, fun j hj => hj.elim⟩
set_option maxRecDepth 100000 in
set_option maxHeartbeats 8000000 in
theorem table_any (k : Int) (hk : k = 1 ∨ k = 2 ∨ k = 3 ∨ k = 4) (w : World) (hG : Glob w) :
    Calls Tryd.prog 6 #[.int .u8 k] w fun e w' => ∃ v, e = .returned (.tuple #[specV (tabS k) v, .bool true]) ∧ k24.R 24 w' w.heap.size (fun _ => True) v (tabS k).f4 ∧ Below w.heap.size w w' := by
  have hu24 := Tryd.underlying24
  have hu49 := Tryd.underlying49
  obtain ⟨hT1, hT2, hT3, hT4⟩ := toks_ok k hk
  obtain ⟨stF, hfin, hroot0⟩ := fin_some k hk
  have HROOT := Lib.hid hroot0
  clear hroot0
  have hnum : (numB k).size = 3 := by rcases hk with rfl | rfl | rfl | rfl <;> rfl
  have HW0 := Lib.hid (Sbox.new w z24 (.slice none 0 0))
  have HB0 := Lib.hid (below_alloc (Below.refl w.heap.size w) (.cells (specC z24 (.slice none 0 0)) 24))
  have hl : ∀ W : World, (Instr.lookup 45 (.map (some W.heap.size)) (.int .u8 k) true).run Tryd.prog (mapW (Value.int .u8) W wordsL) = .ok (.tuple #[.string (wordB k), .bool true]) (mapW (Value.int .u8) W wordsL) := by
    intro W
    have := run_lookup_ok (keyAs_int .u8) Tryd.underlying45 Tryd.underlying5 k wordsL 4 (.string ⟨#[]⟩) (fun w => Tryd.zeroValue9 w) (mapW (Value.int .u8) W wordsL) W.heap.size (mapW_at W wordsL)
    rw [mget_words k hk] at this
    exact this
  refine (callsIn_wide (n := 6)).1 ?_
  have h1 : 1 ≤ 6 := by omega
  refine callsIn_of_wp_marks Tryd.func6 rfl trivial ?_ rfl
  simp only [Tryd.ntmps6, List.size_toArray, List.length_cons, List.length_nil, Nat.reduceAdd, Nat.reduceSub, Array.replicate_succ, Array.replicate_zero, List.push_toArray, List.append_toArray, List.nil_append, List.cons_append]
  gi_wp2
  refine ⟨trivial, (callsIn_wide.2 (words_any _)).mono ?_⟩
  rintro e w1 ⟨rfl, rfl⟩
  unfold specC z24 at HW0 HB0
  dsimp only at HW0 HB0
  generalize w.alloc _ = wA at HW0 HB0 ⊢
  have hlA := hl wA
  have HB1 := Lib.hid ((mapW_below (enc := Value.int .u8) (Below.refl _ wA) (Nat.le_refl _) wordsL))
  gi_wp2
  clear hl hlA
  generalize mapW (Value.int .u8) wA wordsL = wB at HB1 ⊢
  refine ⟨trivial, (callsIn_wide.2 (number_any k wB)).mono ?_⟩
  rintro e w2 ⟨rfl, hb2⟩
  have q1 : (2 : Int) + ((numB k).size : Int) ≤ 9223372036854775807 := by omega
  gi_wp2
  refine ⟨trivial, (callsIn_wide.2 (leaf_any _ _ _ w2)).mono ?_⟩
  rintro e w3 ⟨rfl, hb3⟩
  gi_wp2
  refine ⟨trivial, (callsIn_wide.2 (leaf_any _ _ _ w3)).mono ?_⟩
  rintro e w4 ⟨rfl, hb4⟩
  gi_wp2
  refine ⟨trivial, (callsIn_wide.2 (leaf_any _ _ _ w4)).mono ?_⟩
  rintro e w5 ⟨rfl, hb5⟩
  have hAll : Below wA.heap.size wA w5 := HB1.out.trans ((hb2.mono HB1.out.size).trans ((hb3.mono (Nat.le_trans HB1.out.size hb2.size)).trans ((hb4.mono (Nat.le_trans HB1.out.size (Nat.le_trans hb2.size hb3.size))).trans (hb5.mono (Nat.le_trans HB1.out.size (Nat.le_trans hb2.size (Nat.le_trans hb3.size hb4.size)))))))
  have HB5 := Lib.hid (HB0.out.trans (hAll.mono HB0.out.size))
  have HS5 := Lib.hid (Sbox.low HW0.out hAll (Sbox.lt HW0.out))
  clear hAll hb2 hb3 hb4 hb5 HB1 HB0 HW0
  unfold specV leafS
  gi_wp2
  have hrp := boot_rep w5 k
  obtain ⟨-, -, -, -, -, -, b6, b7, b8⟩ := boot_at w5 ((⟨#[77, 84]⟩ : ByteArray) ++ numB k)
  have hc3 : cells3 = #[.string ⟨#[83, 101, 110, 100, 101, 114]⟩, .int .i64 1, .int .i64 1, .string ⟨#[97, 100, 100, 114, 101, 115, 115]⟩, .slice none 0 0, .bool false, .string ⟨#[82, 101, 99, 101, 105, 118, 101, 114]⟩, .int .i64 1, .int .i64 1, .string ⟨#[97, 100, 100, 114, 101, 115, 115]⟩, .slice none 0 0, .bool false, .string ⟨#[85, 69, 84, 82]⟩, .int .i64 0, .int .i64 1, .string ⟨#[117, 101, 116, 114]⟩, .slice none 0 0, .bool false] := rfl
  unfold bootW takeV putV at b6 b7 b8
  unfold bootW takeV putV at hrp
  rw [hc3] at b6 b7 b8 hrp
  generalize hwb : World.alloc _ _ = wb at b6 b7 b8 hrp ⊢
  clear hwb hc3
  have HRp := Lib.hid hrp
  have HG5 := Lib.hid (hG.below HB5.out)
  clear hrp
  have h05 : 0 < w5.heap.size := Nat.lt_of_lt_of_le (World.block_lt_of_cell? w _ (hG.ascii 0 (by omega))) HB5.out.size
  refine ⟨trivial, (fseq_in Fence.wide 5 trivial rfl (wordB k) wb).mono ?_⟩
  rintro e w8 ⟨rfl, rfl⟩
  gi_wp2
  have hba := below_alloc (Below.refl wb.heap.size wb) (.cells #[.string (wordB k)] 9)
  have hbt : (wb.alloc (.cells #[.string (wordB k)] 9)).heap[wb.heap.size]? = some (.cells #[.string (wordB k)] 9 (0, 0)) := World.alloc_heap_new _ _
  have hb58 := b7.trans (hba.mono b7.size)
  have hg8 : ∀ c : Nat, c < 256 → (wb.alloc (.cells #[.string (wordB k)] 9)).cell? ⟨0, c, none⟩ = some (.int .u8 (spT c)) := fun c hc => (hb58.cell (World.block_lt_of_cell? w5 _ (HG5.out.ascii c hc))).trans (HG5.out.ascii c hc)
  have hasc : ∀ c ∈ (wordB k).data.toList, c.toNat < 128 := fun c hc => of_decide_eq_true (List.all_eq_true.1 hT4 c hc)
  have hsz8 : (wb.alloc (.cells #[.string (wordB k)] 9)).heap.size = wb.heap.size + 1 := World.size_alloc _ _
  have h6 := (hba.block _ (tlt b6)).trans b6
  have HR8 := HRp.out.below hba
  generalize hw8 : wb.alloc (.cells #[.string (wordB k)] 9) = w8 at hba hbt hb58 hg8 hsz8 h6 HR8 ⊢
  clear hw8 b6 b7
  rw [b8] at hbt hsz8
  have hK8 : ∀ (X Y : World) (row : Option Nat), X.grownBy Y row → (∀ r, row = some r → w8.heap.size ≤ r ∧ ∃ o : Obj, X.heap[r]? = some o ∧ o.isCells = false) → ∀ (k t : Nat) (c : Array Value) (fr : Nat × Nat), X.heap[k]? = some (.cells c t fr) → Y.heap[k]? = X.heap[k]? :=
    fun _ _ _ hg hr k t c fr hk => hg.block k (tlt hk) (fun e => by obtain ⟨_, o, ho, hc⟩ := hr k e.symm; rw [hk] at ho; cases ho; cases hc)
  have hfx : ∀ (pre : List ByteArray) (x : ByteArray), (∃ r, fieldsB (wordB k) = pre ++ x :: r) → ∀ st, foldT (st0 k) pre = some st → (∃ st', takeT st x = some st' ∧ foldT (st0 k) (pre ++ [x]) = some st') ∧ x.size ≤ 1000 ∧ Lib.atoiAll x.data.toList ≠ .range ∧ st.root.f4.length ≤ 1000 ∧ ∀ g, st.grp = some g → g.f4.length ≤ 1000 := by
    rintro pre x ⟨r, hr⟩ st hst
    have h2 := hfin
    unfold finS at h2
    rw [hr, foldT_append, hst, Option.bind_some] at h2
    have hx := tok_of x (List.all_eq_true.1 hT1 x (by rw [hr]; simp))
    have hfew := few_fold (n := 3) (st := st0 k) ⟨Nat.le_refl _, fun g hg => (by cases hg)⟩ hst
    have hpl : pre.length ≤ 100 := by rw [hr] at hT2; simp at hT2; omega
    obtain ⟨f1, f2⟩ := hfew
    refine ⟨?_, hx.1, hx.2, by omega, fun g hg => by have := f2 g hg; omega⟩
    unfold foldT at h2
    cases ht : takeT st x with
    | none => rw [ht] at h2; cases h2
    | some st' => exact ⟨st', rfl, by rw [foldT_append, hst, Option.bind_some, foldT, ht]; rfl⟩
  have HK8 := Lib.hid hK8
  have HFX := Lib.hid hfx
  clear hK8 hfx
  refine range_texts rfl h1 rfl (gf := 49) (lb := #[.pointer (some ⟨w5.heap.size + 7, 0, none⟩)]) rfl trivial (enters_of Tryd.func49 (by kernel_rfl) rfl) (fieldsB (wordB k)) w5.heap.size hb58.size ?hseq
    (fun pre W => ((∃ st gs A B rv gv nv, foldT (st0 k) pre = some st ∧ Rep W w5.heap.size (w5.heap.size + 1) (w5.heap.size + 1 + 1) (w5.heap.size + 1 + 1 + 1) (w5.heap.size + 1 + 1 + 1 + 1) (w5.heap.size + 1 + 1 + 1 + 1 + 1) st gs A B rv gv nv) ∧ W.heap[w5.heap.size + 1 + 1 + 1 + 1 + 1 + 1]? = some (.cells #[.func (.func 25) #[] #[.pointer (some ⟨w5.heap.size + 1 + 1 + 1 + 1, 0, none⟩), .pointer (some ⟨w5.heap.size + 1 + 1 + 1, 0, none⟩), .pointer (some ⟨w5.heap.size + 1 + 1, 0, none⟩), .pointer (some ⟨w5.heap.size + 1 + 1 + 1 + 1 + 1, 0, none⟩)]] 56 (0, 0))) ∧ Below w5.heap.size w5 W)
    ?hI ⟨⟨⟨_, _, _, _, _, _, _, rfl, HR8⟩, h6⟩, hb58⟩ (fun x => { tmps := #[.int .u8 k, undef, .pointer (some ⟨w.heap.size, 0, none⟩), .bool false, .string (wordB k), .bool true, .pointer (some ⟨w5.heap.size + 1, 0, none⟩), .pointer (some ⟨w5.heap.size + 1 + 1, 0, none⟩), .pointer (some ⟨w5.heap.size + 1 + 1 + 1, 0, none⟩), .pointer (some ⟨w5.heap.size + 1 + 1 + 1 + 1, 0, none⟩), .pointer (some ⟨w5.heap.size + 1 + 1 + 1 + 1 + 1, 0, none⟩), .pointer (some ⟨w5.heap.size + 1 + 1 + 1 + 1 + 1 + 1, 0, none⟩), .string x, .tuple #[.string (wordB k), .bool true], .map (some wA.heap.size), .int .u8 k, .tuple #[.string (wordB k), .bool true], .string (wordB k), .bool true, .bool true, .bool false, undef, .int .u8 k, .string (numB k), .string ((⟨#[77, 84]⟩ : ByteArray) ++ numB k), .agg #[.string ⟨#[83, 101, 110, 100, 101, 114]⟩, .int .i64 1, .int .i64 1, .string ⟨#[97, 100, 100, 114, 101, 115, 115]⟩, .slice none 0 0, .bool false], .agg #[.string ⟨#[82, 101, 99, 101, 105, 118, 101, 114]⟩, .int .i64 1, .int .i64 1, .string ⟨#[97, 100, 100, 114, 101, 115, 115]⟩, .slice none 0 0, .bool false], .agg #[.string ⟨#[85, 69, 84, 82]⟩, .int .i64 0, .int .i64 1, .string ⟨#[117, 101, 116, 114]⟩, .slice none 0 0, .bool false], .slice (some ⟨w5.heap.size, 0, none⟩) 3 3, .agg #[.string ((⟨#[77, 84]⟩ : ByteArray) ++ numB k), .int .i64 1, .int .i64 1, .string ⟨#[]⟩, .slice (some ⟨w5.heap.size, 0, none⟩) 3 3, .bool false], .func (.func 24) #[] #[.pointer (some ⟨w5.heap.size + 1 + 1 + 1 + 1, 0, none⟩), .pointer (some ⟨w5.heap.size + 1 + 1, 0, none⟩), .pointer (some ⟨w5.heap.size + 1, 0, none⟩)], .func (.func 25) #[] #[.pointer (some ⟨w5.heap.size + 1 + 1 + 1 + 1, 0, none⟩), .pointer (some ⟨w5.heap.size + 1 + 1 + 1, 0, none⟩), .pointer (some ⟨w5.heap.size + 1 + 1, 0, none⟩), .pointer (some ⟨w5.heap.size + 1 + 1 + 1 + 1 + 1, 0, none⟩)], .string (wordB k), .func (.func 49) #[] #[.pointer (some ⟨w5.heap.size + 7, 0, none⟩)], .string x, undef, undef, undef, undef], defers := [] }) ?assign ?body ?done
  case hseq =>
    intro l J W hW hY h0
    refine (fseq1_in Fence.wide rfl (6 - 1) trivial rfl w5.heap.size l (w5.heap.size + 7) (wordB k) hT3 hasc J (fun _ _ => False) (fun m pre x W' hj hx => yield_any rfl m ((hY pre x W' hj hx).mono (fun e W2 h => .inl h))) W ((hW.block _ (tlt hbt)).trans hbt) (fun c hc => (hW.cell (World.block_lt_of_cell? w8 _ (hg8 c hc))).trans (hg8 c hc)) h05 h0).mono ?_
    rintro e W' ⟨hv, ⟨ys, rfl, hj⟩ | ⟨pre, hp, hf⟩⟩
    · exact ⟨hv, hj⟩
    · exact hf.elim
  case hI =>
    refine OwnFrom.and ?_ (ownFrom_below (Nat.le_refl _) hb58.size)
    rintro pre X Y row ⟨⟨st, gs, A, B, rv, gv, nv, hst, hr⟩, h6'⟩ hg hrow
    have hm := HK8.out _ _ _ hg hrow
    exact ⟨⟨st, gs, A, B, rv, gv, nv, hst, hr.grow hg.size hm⟩, (hm _ _ _ _ h6').trans h6'⟩
  case assign =>
    intro l x W K hK
    gi_wp2
    exact hK
  case body =>
    rintro l pre x W ⟨⟨⟨st, gs, A, B, rv, gv, nv, hst, hr⟩, h6'⟩, hb⟩ hx
    obtain ⟨⟨st', ht, hst'⟩, hx1, hx2, hl1, hl2⟩ := HFX.out _ _ hx st hst
    have htk := take_any w5 W _ _ _ _ _ st st' gs A B rv gv nv hr x hx1 hx2 HG5.out hb ⟨hl1, hl2⟩ ht
    have HTk := Lib.hid htk
    have t0 := blk_cell h6' 0
    clear htk
    gi_wp2
    refine ⟨trivial, (CallsIn.inRound l (callsIn_wide.2 HTk.out)).mono ?_⟩
    rintro e W3 ⟨⟨v, rfl⟩, ⟨gs', A', B', rv', gv', nv', hr'⟩, hb', hq⟩
    gi_wp2
    refine ⟨⟨hq.1, fun k o _ ho hc => hq.2 k o ho (fun t c e => by rw [e] at hc; cases hc)⟩, ⟨⟨⟨hb'.os.trans hb.os.symm, hb'.tape.trans hb.tape.symm, hb'.output.trans hb.output.symm, hq.1, fun k hk => (hb'.block k hk).trans (hb.block k hk).symm⟩, hq.1⟩, fun k c fr hk => hq.2 k _ hk (fun t c' e => by cases e; exact ⟨by decide, by decide, by decide, by decide⟩)⟩, ⟨⟨st', gs', A', B', rv', gv', nv', hst', hr'⟩, hq.2 _ _ h6' (fun t c' e => by cases e; exact ⟨by decide, by decide, by decide, by decide⟩)⟩, hb'⟩
  case done =>
    rintro D W hD ⟨⟨⟨st, gs, A, B, rv, gv, nv, hst, hr⟩, h6'⟩, hb⟩ hK
    have hstF : st = stF := by
      have h2 := hfin
      unfold finS at h2
      rw [hst] at h2
      exact Option.some.inj h2
    subst hstF
    obtain ⟨Ar, cr, hrv⟩ := Kd.R_slice hr.rr
    subst hrv
    have hg2 : w.heap.size < w5.heap.size := Sbox.lt HS5.out
    have HS := Lib.hid (Sbox.low (show Sbox w5 w.heap.size z24 (.slice none 0 0) from HS5.out) hb hg2)
    obtain ⟨z0, z1, z2, z3, z4, z5⟩ := HS.out.frozen
    obtain ⟨c0, c1, c2, c3, c4, c5⟩ := HS.out.cells
    obtain ⟨r0, r1, r2, r3, r4, r5⟩ := hr.rb.cells
    have hX := put6_box HS.out st.root (.slice Ar st.root.f4.length cr)
    have hY := put6_below (HB5.out.trans (hb.mono HB5.out.size)) w.heap.size (Nat.le_refl _) st.root (.slice Ar st.root.f4.length cr)
    have hZ : k24.R 24 (put6 W w.heap.size st.root (.slice Ar st.root.f4.length cr)) w.heap.size (fun _ => True) (.slice Ar st.root.f4.length cr) st.root.f4 := Kd.R_mono (Kd.R_step (Kd.R_lower (Kd.R_bound hr.rr) HB5.out.size) (fun k hk _ => put6_other _ _ _ _ k (by have := hk.2.1; omega))) (fun _ _ => trivial)
    have hKD : (put6 W w.heap.size st.root (.slice Ar st.root.f4.length cr)).heap[D]? = some (.deferred (some [])) := (put6_other _ _ _ _ D (by have := hb58.size; omega)).trans hK
    have HX := Lib.hid hX
    have HY := Lib.hid hY
    have HZ := Lib.hid hZ
    have HKD := Lib.hid hKD
    have hDw : w.heap.size ≤ D := by have := hb58.size; omega
    clear hX hY hZ hKD
    unfold put6 at HX HY HZ HKD
    gi_wp2
    generalize World.setCell _ _ _ = w9 at HX HY HZ HKD ⊢
    have hne : w.heap.size ≠ D := by have := hb58.size; omega
    refine ⟨by simp, .inl ⟨_, _, rfl, run_takeDeferred HKD.out, ?_⟩⟩
    have hX9 : Sbox (w9.putObj D (.deferred none)) w.heap.size st.root (.slice Ar st.root.f4.length cr) := (World.putObj_heap_other hne).trans HX.out
    have hroot := HROOT.out
    refine ⟨_, results6 hX9 _ rfl rfl, .slice Ar st.root.f4.length cr, ?_, ?_, ?_⟩
    · rw [hroot]
    · rw [← hroot]
      exact Kd.R_step (Kd.R_bound HZ.out) (fun j hk' hj => World.putObj_heap_other (fun e => by subst e; obtain ⟨-, -, -, q, hq, c, hc⟩ := hk'; rw [HKD.out] at hc; cases hc)) |> fun h => Kd.R_mono h (fun _ _ => trivial)
    · exact HY.out.trans (belowK_b (w := w) (Nat.le_refl _) w9 D _ _ hDw HKD.out rfl rfl)
end Go.Proofs.YtepphihcggppbaaDoor.A
