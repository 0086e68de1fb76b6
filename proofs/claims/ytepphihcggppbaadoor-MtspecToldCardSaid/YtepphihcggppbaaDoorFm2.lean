/- field.Spec: a field's table, walked by hand. -/
import Derived.Test.YtepphihcggppbaaDoorFm1
import Derived.Test.YtepphihcggppbaaDoorBx
import Derived.Lib.Hide
set_option linter.unusedVariables false
set_option linter.unusedSimpArgs false
namespace Go.Proofs.YtepphihcggppbaaDoor.A
open Go.RowKit Go.Proofs.MapLit Go.Proofs.YtepphihcggppbaaDoor.F Go.Proofs.YtepphihcggppbaaDoorW.PrintWords Go.Proofs.YtepphihcggppbaaDoorW.PrintLast Go.Proofs.YtepphihcggppbaaDoorW.PrintMore

def fmtGet (tag : ByteArray) : Option (List PT) := (fmts.find? fun x => decide (tag = x.1)).map (·.2)
def kidT (p : PT) : S24 := ⟨p.nm, p.least, p.most, p.leaf, [], false⟩
/-- A field's table. -/
def specT (tag : ByteArray) (a b : Int) : S24 × Bool := match fmtGet tag with | none => (z24, false) | some l => (⟨tag, a, b, ⟨#[]⟩, l.map kidT, false⟩, true)
theorem all2_get {W : World} (tag : ByteArray) : ∀ {l : List (ByteArray × Value)} {m : List (ByteArray × List PT)}, All2 (FRel W) l m →
    match (m.find? fun x => decide (tag = x.1)) with
    | none => mget l tag = none
    | some f => ∃ g, mget l tag = some (.slice (some ⟨g, 0, none⟩) f.2.length f.2.length) ∧ W.heap[g]? = some (.cells (cellsL f.2) 81 (0, 0))
  | _, _, .nil => rfl
  | a :: l, b :: m, .cons x y => by
    obtain ⟨h1, g, h2, h3⟩ := x
    by_cases h : tag = b.1
    · have hd : decide (tag = b.1) = true := decide_eq_true h
      have ha : decide (tag = a.1) = true := decide_eq_true (h1 ▸ h)
      simp only [List.find?_cons, hd]
      refine ⟨g, ?_, h3⟩
      unfold mget
      simp only [List.find?_cons, ha]
      exact congrArg some h2
    · have hd : decide (tag = b.1) = false := decide_eq_false h
      have ha : decide (tag = a.1) = false := by rw [h1]; exact hd
      simp only [List.find?_cons, hd]
      have := all2_get tag y
      unfold mget at this ⊢
      simp only [List.find?_cons, ha]
      exact this
/-- What a look into the map of formats gives. -/
theorem fmt_look {W0 W : World} {b : Nat} (h : FmtInv W0 W b 24) (tag : ByteArray) :
    match fmtGet tag with
    | none => (Instr.lookup 69 (.map (some b)) (.string tag) true).run Tryd.prog W = .ok (.tuple #[.slice none 0 0, .bool false]) W
    | some l => ∃ g, (Instr.lookup 69 (.map (some b)) (.string tag) true).run Tryd.prog W = .ok (.tuple #[.slice (some ⟨g, 0, none⟩) l.length l.length, .bool true]) W ∧ W.heap[g]? = some (.cells (cellsL l) 81 (0, 0)) := by
  obtain ⟨kvs, hb, hr, -, -⟩ := h
  rw [show fmts.take 24 = fmts by decide] at hr
  have h1 := run_lookup_ok keyAs_string Tryd.underlying69 Tryd.underlying9 tag kvs kvs.length (.slice none 0 0) (fun w => Tryd.zeroValue67 w) W b hb
  have h2 := all2_get tag hr
  unfold fmtGet
  cases hf : fmts.find? (fun x => decide (tag = x.1)) with
  | none =>
    rw [hf] at h2
    rw [h2] at h1
    exact h1
  | some f =>
    rw [hf] at h2
    obtain ⟨g, h3, h4⟩ := h2
    rw [h3] at h1
    exact ⟨g, h1, h4⟩
theorem part_cell {W : World} {g : Nat} {l : List PT} (h : W.heap[g]? = some (.cells (cellsL l) 81 (0, 0))) (i j : Nat) (p : PT) (hp : l[i]? = some p) (v : Value) (hv : (cellsP p)[j]? = some v) : W.cell? ⟨g, i * 6 + j, none⟩ = some v := by
  refine (cell_of_row _ _ (i * 6 + j) _ _ _ h).trans ?_
  have hj : j < 6 := by have := (List.getElem?_eq_some_iff.1 hv).1; simpa [cellsP] using this
  unfold cellsL
  rw [List.getElem?_toArray]
  clear h
  induction l generalizing i with
  | nil => simp at hp
  | cons x l ih =>
    rw [List.flatMap_cons]
    cases i with
    | zero =>
      simp at hp
      subst hp
      rw [List.getElem?_append_left (by simp [cellsP]; omega)]
      simpa using hv
    | succ i =>
      rw [List.getElem?_append_right (by simp [cellsP]; omega)]
      have := ih i (by simpa using hp)
      rw [show (i + 1) * 6 + j - (cellsP x).length = i * 6 + j by simp [cellsP]; omega]
      exact this
theorem fmt_small (tag : ByteArray) (l : List PT) (h : fmtGet tag = some l) : l.length ≤ 5 := by
  unfold fmtGet at h
  cases hf : fmts.find? (fun x => decide (tag = x.1)) with
  | none => rw [hf] at h; cases h
  | some f =>
    rw [hf] at h
    cases h
    have hm := List.mem_of_find?_eq_some hf
    have : ∀ f ∈ fmts, f.2.length ≤ 5 := by decide
    exact this f hm
theorem results12 {g : Nat} {s : S24} {v : Value} {b : Bool} {w : World} (h : Sbox w g s v) (tmps : Array Value) (h6 : tmps.getD 6 undef = .pointer (some ⟨g, 0, none⟩)) (h7 : tmps.getD 7 undef = .bool b) :
    (results Tryd.f12 tmps).run Tryd.prog w = .ok (.tuple #[specV s v, .bool b]) w := by
  obtain ⟨k0, k1, k2, k3, k4, k5⟩ := h.cells
  rw [Array.getD_eq_getD_getElem?] at h6 h7
  simp [results, Tryd.results12, go_sem, h6, h7, k0, k1, k2, k3, k4, k5, specV]
set_option maxRecDepth 100000 in
set_option maxHeartbeats 4000000 in
theorem spec_any (tag : ByteArray) (a b : Int) (w : World) :
    Calls Tryd.prog 12 #[.string tag, .int .i64 a, .int .i64 b] w fun e w' => ∃ v, e = .returned (.tuple #[specV (specT tag a b).1 v, .bool (specT tag a b).2]) ∧ k24.R 24 w' w.heap.size (fun _ => True) v (specT tag a b).1.f4 ∧ Below w.heap.size w w' := by
  have hu24 := Tryd.underlying24
  have hb0 := below_alloc (Below.refl w.heap.size w) (.cells #[.string ⟨#[]⟩, .int .i64 0, .int .i64 0, .string ⟨#[]⟩, .slice none 0 0, .bool false] 24)
  cases hf : fmtGet tag with
  | none =>
    have hs : specT tag a b = (z24, false) := by unfold specT; rw [hf]
    rw [hs]
    go_enter Tryd.func12, Tryd.ntmps12
    go_wp2_with fail
    refine (formats_any _).mono ?_
    rintro e w1 ⟨rfl, hI⟩
    have hl := fmt_look hI tag
    rw [hf] at hl
    dsimp only at hl
    rw [World.size_alloc] at hl
    obtain ⟨-, -, -, hB, -⟩ := hI
    have H0 := Lib.hid ((Sbox.new w z24 (.slice none 0 0)).low hB (by simp))
    have HB1 := Lib.hid (hb0.trans (hB.mono (by simp)))
    clear hb0 hB
    obtain ⟨z0, z1, z2, z3, z4, z5⟩ := H0.out.frozen
    obtain ⟨c0, c1, c2, c3, c4, c5⟩ := H0.out.cells
    go_wp2_with fail
    have hX := put6_box H0.out z24 (.slice none 0 0)
    have hY := put6_below HB1.out w.heap.size (Nat.le_refl _) z24 (.slice none 0 0)
    simp only [put6, z24] at hX hY
    generalize World.setCell _ _ _ = W9 at hX hY ⊢
    refine bodyPost_ret (results12 hX _ rfl rfl) rfl ?_
    exact ⟨_, rfl, Kd.R_nil _ _ _ _ _, hY⟩
  | some l =>
    have hs : specT tag a b = (⟨tag, a, b, ⟨#[]⟩, l.map kidT, false⟩, true) := by unfold specT; rw [hf]
    rw [hs]
    have hl5 := fmt_small tag l hf
    go_enter Tryd.func12, Tryd.ntmps12
    go_wp2_with fail
    refine (formats_any _).mono ?_
    rintro e w1 ⟨rfl, hI⟩
    have hl := fmt_look hI tag
    rw [hf] at hl
    dsimp only at hl
    rw [World.size_alloc] at hl
    obtain ⟨g, hl, hg⟩ := hl
    obtain ⟨-, -, -, hB, -⟩ := hI
    have H0 := Lib.hid ((Sbox.new w z24 (.slice none 0 0)).low hB (by simp))
    have HB1 := Lib.hid (hb0.trans (hB.mono (by simp)))
    have hsz : w.heap.size < w1.heap.size := by have := hB.size; simp at this; omega
    have hgn : g < w1.heap.size := (Array.getElem?_eq_some_iff.1 hg).1
    have HG := Lib.hid hg
    clear hb0 hB hg
    go_wp2_with fail
    have HS := Lib.hid (Sbox.new w1 ⟨tag, a, b, ⟨#[]⟩, [], false⟩ (.slice none 0 0))
    have HW := Lib.hid (below_alloc (Below.refl w1.heap.size w1) (.cells #[.string tag, .int .i64 a, .int .i64 b, .string ⟨#[]⟩, .slice none 0 0, .bool false] 24))
    go_loopg [28] (l.length + 1) (fun kq v28 wr => ∃ (i : Nat) (v : Value), v28 = .int .i64 i ∧ i ≤ l.length ∧ Aside0 (kq + i = l.length + 1) ∧ Hid (Sbox wr w1.heap.size ⟨tag, a, b, ⟨#[]⟩, [], false⟩ v) ∧ Hid (k24.R 24 wr w1.heap.size (fun k => w1.heap.size < k) v ((l.take i).map kidT)) ∧ Hid (Below w1.heap.size w1 wr))
    case atStart => exact ⟨0, .slice none 0 0, rfl, Nat.zero_le _, ⟨rfl⟩, HS, Kd.R_nil _ _ _ _ _, HW⟩
    case round =>
      obtain ⟨i, v, rfl, hi, HKq, HSb, HR, HW2⟩ := hrel
      by_cases hlt : i < l.length
      · have hd : decide ((i : Int) < (l.length : Int)) = true := decide_eq_true (by omega)
        have hgr : wr.heap[g]? = some (.cells (cellsL l) 81 (0, 0)) := (HW2.out.block g hgn).trans HG.out
        have hp : l[i]? = some l[i] := List.getElem?_eq_getElem hlt
        have p0 := part_cell hgr i 0 _ hp _ rfl
        have p1 := part_cell hgr i 1 _ hp _ rfl
        have p2 := part_cell hgr i 2 _ hp _ rfl
        have p3 := part_cell hgr i 3 _ hp _ rfl
        have p4 := part_cell hgr i 4 _ hp _ rfl
        have p5 := part_cell hgr i 5 _ hp _ rfl
        rw [Nat.add_zero] at p0
        generalize hpe : l[i] = pe at p0 p1 p2 p3 p4 p5
        have hkl : ((l.take i).map kidT).length = i := by rw [List.length_map, List.length_take]; omega
        have hks1 : (l.take (i + 1)).map kidT = (l.take i).map kidT ++ [kidT pe] := by rw [List.take_add_one, List.map_append, hp, hpe]; rfl
        have HKS := Lib.hid hks1
        generalize (l.take i).map kidT = ks at HR hkl HKS
        obtain ⟨A, c, rfl⟩ := Kd.R_slice HR.out
        rw [hkl] at HR HSb
        have HKL := Lib.hid hkl
        clear hkl hks1
        have c4 := HSb.out.cells.2.2.2.2.1
        have z4 := HSb.out.frozen.2.2.2.2.1
        clear hgr
        go_upto_region 8 with fail
        have hk9 := (MapKept.heap_alloc wr (.cells #[.string pe.nm, .int .u8 pe.how, .int .i64 pe.n, .string pe.leaf, .int .i64 pe.least, .int .i64 pe.most] 81)).1
        have hba := below_alloc (Below.refl wr.heap.size wr) (.cells #[.string pe.nm, .int .u8 pe.how, .int .i64 pe.n, .string pe.leaf, .int .i64 pe.least, .int .i64 pe.most] 81)
        have HS9 := Lib.hid (HSb.out.low hba HSb.out.lt)
        have HR9 := Lib.hid (Kd.R_below HR.out hba)
        have HB9 := Lib.hid (HW2.out.trans (hba.mono HW2.out.size))
        have hlr : (Value.slice A i c).ownBlock ≠ some wr.heap.size := fun e => Nat.lt_irrefl _ (Kd.R_lt HR.out _ e)
        clear c4 z4 hba p0 p1 p2 p3 p4 p5
        generalize wr.heap.size = gk at hk9 hlr ⊢
        generalize wr.alloc _ = w9 at HS9 HR9 HB9 hk9 ⊢
        have q0 := blk_cell hk9 0
        have q2 := blk_cell hk9 3
        have q3 := blk_cell hk9 4
        have q4 := blk_cell hk9 5
        have c4 := HS9.out.cells.2.2.2.2.1
        have z4 := HS9.out.frozen.2.2.2.2.1
        go_wp2_with (at_builtin; refine Kd.R_append k24 (w0 := w1) (W := w9) w1.heap.size rfl (.tmp 33) (.tmp 44) 22 24 (.agg #[.string ⟨#[]⟩, .int .i64 0, .int .i64 0, .string ⟨#[]⟩, .slice none 0 0, .bool false]) 80 rfl und22 info24 rfl (by decide) (by decide) (.slice A i c) ks (kidT pe) [.string pe.nm, .int .i64 pe.least, .int .i64 pe.most, .string pe.leaf, .slice none 0 0, .bool false] (fun k => w1.heap.size < k) (fun _ => False) (by simp [Act.eval, Act.put]) (by simp [Act.eval, Act.put]) (k24_mkM _ _ _ (kidT pe) (Kd.R_nil _ _ _ _ _)) (fun k hk => hk.elim) (fun k hk => by have := HB9.out.size; have := HS9.out.lt; omega) HR9.out HB9.out HB9.out.size (by have := HKL.out; omega) ?_)
        intro v5 w5 hA5 hb5 hg5 hat5
        have hl5' : (ks ++ [kidT pe]).length = i + 1 := by rw [List.length_append, HKL.out]; rfl
        obtain ⟨A5, c5, hv5⟩ := Kd.R_slice hA5
        rw [hl5'] at hv5
        subst hv5
        have hne : some w1.heap.size ≠ (Value.slice A i c).ownBlock := fun e => Nat.lt_irrefl _ (HR9.out.1 _ e.symm)
        have HS5 := Lib.hid (show Sbox w5 w1.heap.size ⟨tag, a, b, ⟨#[]⟩, [], false⟩ (.slice A i c) from (hg5.block _ HS9.out.lt hne).trans HS9.out)
        have d4 := HS5.out.cells.2.2.2.2.1
        have y4 := HS5.out.frozen.2.2.2.2.1
        have HA5 := Lib.hid hA5
        have HB5 := Lib.hid hb5
        clear hA5 hb5 hg5 hat5 c4 z4
        go_wp2_with fail
        go_roundg (l.length - i)
        case measure => have := HKq.out; omega
        case rel =>
          refine ⟨i + 1, .slice A5 (i + 1) c5, by go_num, by omega, ⟨by omega⟩, blk_put HS5.out 4 _ rfl, ?_, HB5.out.setCell (p := ⟨w1.heap.size, 4, none⟩) (Nat.le_refl _) _⟩
          rw [HKS.out]
          exact Kd.R_far HA5.out (fun k hk => by show k ≠ w1.heap.size; omega) _
      · have hie : i = l.length := by omega
        subst hie
        have hd : decide ((l.length : Int) < (l.length : Int)) = false := decide_eq_false (by omega)
        rw [List.take_length] at HR
        obtain ⟨Av, cv, hv⟩ := Kd.R_slice HR.out
        rw [List.length_map] at hv
        subst hv
        have H0r := Lib.hid ((H0.out.low HW2.out hsz))
        obtain ⟨z0, z1, z2, z3, z4, z5⟩ := H0r.out.frozen
        obtain ⟨d0, d1, d2, d3, d4, d5⟩ := H0r.out.cells
        obtain ⟨c0, c1, c2, c3, c4, c5⟩ := HSb.out.cells
        go_wp2_with fail
        have hX := put6_box H0r.out ⟨tag, a, b, ⟨#[]⟩, [], false⟩ (.slice Av l.length cv)
        have hY := put6_below (HB1.out.trans (HW2.out.mono (Nat.le_of_lt hsz))) w.heap.size (Nat.le_refl _) ⟨tag, a, b, ⟨#[]⟩, [], false⟩ (.slice Av l.length cv)
        have hr := HR.out
        have hZ : k24.R 24 (put6 wr w.heap.size ⟨tag, a, b, ⟨#[]⟩, [], false⟩ (.slice Av l.length cv)) w.heap.size (fun _ => True) (.slice Av l.length cv) (l.map kidT) := Kd.R_mono (Kd.R_step (Kd.R_lower hr (Nat.le_of_lt hsz)) (fun k hk _ => put6_other _ _ _ _ k (by omega))) (fun _ _ => trivial)
        simp only [put6] at hX hY hZ
        generalize World.setCell _ _ _ = W9 at hX hY hZ ⊢
        refine bodyPost_ret (results12 hX _ rfl rfl) rfl ?_
        exact ⟨_, rfl, hZ, hY⟩
end Go.Proofs.YtepphihcggppbaaDoor.A
