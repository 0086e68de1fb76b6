/- remitterlaw18.MtspecTold, walked by hand. -/
import Derived.Test.YtepphihcggppbaaDoorMTab
import Derived.Test.YtepphihcggppbaaDoorAx1
import Derived.Deep.RegionLaw
set_option linter.unusedVariables false
set_option linter.unusedSimpArgs false
namespace Go.Proofs.YtepphihcggppbaaDoor.A
open Go.RowKit Go.Proofs.YtepphihcggppbaaDoorW.PrintWords Go.Proofs.YtepphihcggppbaaDoorW.PrintLast Go.Proofs.YtepphihcggppbaaDoorW.PrintMore

set_option maxRecDepth 100000 in
set_option maxHeartbeats 4000000 in
theorem wakes_any (w : World) (hG : Glob w) : Calls Tryd.prog 8 #[] w fun e w' => e = .returned (.bool true) ∧ Below w.heap.size w w' := by
  have hu24 := Tryd.underlying24
  have hname : (tabS 3).f0 = ⟨#[77, 84, 50, 48, 50]⟩ := by kernel_rfl
  have hlen : (tabS 3).f4.length = 10 := by kernel_rfl
  have ht := table_any 3 (by simp) w hG
  unfold specV at ht
  rw [hname] at ht
  generalize tabS 3 = ts at ht hlen
  have HT := Lib.hid ht
  clear ht hname
  go_enter Tryd.func8, Tryd.ntmps8
  go_wp2_with fail
  refine HT.out.mono ?_
  rintro e w1 ⟨v, rfl, hR, hb1⟩
  obtain ⟨A, c, rfl⟩ := Kd.R_slice hR
  rw [hlen]
  have HB1 := Lib.hid hb1
  clear hR hb1 hlen HT
  have hz := below_alloc (Below.refl w1.heap.size w1) (.cells #[.string ⟨#[77, 84, 50, 48, 50]⟩, .int .i64 ts.f1, .int .i64 ts.f2, .string ts.f3, .slice A 10 c, .bool ts.f5] 24)
  have hbox : (w1.alloc (.cells #[.string ⟨#[77, 84, 50, 48, 50]⟩, .int .i64 ts.f1, .int .i64 ts.f2, .string ts.f3, .slice A 10 c, .bool ts.f5] 24)).heap[w1.heap.size]? = some (.cells #[.string ⟨#[77, 84, 50, 48, 50]⟩, .int .i64 ts.f1, .int .i64 ts.f2, .string ts.f3, .slice A 10 c, .bool ts.f5] 24 (0, 0)) := World.alloc_heap_new _ _
  have HB2 := Lib.hid (HB1.out.trans (hz.mono HB1.out.size))
  have HX := Lib.hid hbox
  clear hz hbox
  have H0 := Lib.hid (Sbox.new w1 z24 (.slice none 0 0))
  obtain ⟨z0, z1, z2, z3, z4, z5⟩ := H0.out.frozen
  obtain ⟨c0, c1, c2, c3, c4, c5⟩ := H0.out.cells
  unfold specC z24 at *
  dsimp only at *
  go_upto_region 2 with fail
  clear z0 z1 z2 z3 z4 z5 c0 c1 c2 c3 c4 c5 H0
  generalize w1.heap.size = gb at HX ⊢
  generalize w1.alloc _ = w2 at HX HB2 ⊢
  go_wp2_with fail
  refine (kind_any ⟨#[49, 48, 51]⟩ w2).mono ?_
  rintro e w3 ⟨rfl, hb3⟩
  rw [show kindT ⟨#[49, 48, 51]⟩ = (2, true) by decide]
  go_wp2_with fail
  refine (kind_any ⟨#[49, 48, 52]⟩ w3).mono ?_
  rintro e w4 ⟨rfl, hb4⟩
  rw [show kindT ⟨#[49, 48, 52]⟩ = (0, false) by decide]
  have hx4 := (hb4.block gb (Nat.lt_of_lt_of_le (tlt HX.out) hb3.size)).trans ((hb3.block gb (tlt HX.out)).trans HX.out)
  have HB4 := Lib.hid (HB2.out.trans ((hb3.mono HB2.out.size).trans (hb4.mono (Nat.le_trans HB2.out.size hb3.size))))
  have k0 := blk_cell hx4 0
  have k4 := blk_cell hx4 4
  clear hx4 hb3 hb4
  go_wp2_with fail
  refine (number_any 4 w4).mono ?_
  rintro e w5 ⟨rfl, hb5⟩
  rw [show numB 4 = ⟨#[57, 52, 48]⟩ by decide]
  have HB5 := Lib.hid (HB4.out.trans (hb5.mono HB4.out.size))
  clear hb5 k0 k4
  go_wp2_with fail
  refine (number_any 9 w5).mono ?_
  rintro e w6 ⟨rfl, hb6⟩
  rw [show numB 9 = ⟨#[]⟩ by decide]
  have HB6 := Lib.hid (HB5.out.trans (hb6.mono HB5.out.size))
  clear hb6
  go_wp2_with fail
  go_ret
  exact ⟨rfl, HB6.out⟩
theorem add_add (ad : Addr) (a b : Nat) : (ad.add a).add b = ad.add (a + b) := by
  unfold Addr.add
  by_cases h1 : a = 0
  · subst h1; simp
  · by_cases h2 : b = 0
    · subst h2; simp
    · rw [if_neg h1, if_neg h2, if_neg (by omega)]
      simp [Nat.add_assoc]
theorem C_drop {α : Type} {d : Kd α} {w : World} {ad : Addr} {n : Nat} {xs : List α} (h : d.C w (some ad) n xs) (k : Nat) (hk : k ≤ n) : d.C w (some (ad.add (k * d.sz))) (n - k) (xs.drop k) := by
  obtain ⟨h1, h2, h3⟩ := h
  refine ⟨by rw [List.length_drop]; omega, by omega, fun hp => ?_⟩
  obtain ⟨ad', e, hc⟩ := h3 (by omega)
  cases e
  refine ⟨_, rfl, fun j p hj => ?_⟩
  rw [List.getElem?_drop] at hj
  obtain ⟨c, q1, q2, q3⟩ := hc (k + j) p hj
  refine ⟨c, q1, q2, fun i u hu => ?_⟩
  rw [add_add, ← q3 i u hu]
  congr 2
  rw [Nat.add_mul, Nat.add_assoc]
theorem u8_succ (k : Nat) (h1 : 1 ≤ k) (h2 : k ≤ 4) : IntKind.u8.wrap ((k : Int) + 1) = (k : Int) + 1 := by
  have : k = 1 ∨ k = 2 ∨ k = 3 ∨ k = 4 := by omega
  rcases this with rfl | rfl | rfl | rfl <;> rfl
theorem rd_get (l : List S24) (i : Nat) (h : i < l.length) : rd_T24 l (i : Int) = l[i] := by
  unfold rd_T24
  simp [List.getD, h]
theorem add_at (g n : Nat) : (⟨g, 0, none⟩ : Addr).add n = ⟨g, n, none⟩ := by
  unfold Addr.add
  split <;> simp_all
theorem grp_a {w4 W w5 : World} {nb n4 : Nat} {l : List S24} {v5 : Value} (hW : Below w4.heap.size w4 W) (hA5 : k24.R 24 w5 nb (fun _ => True) v5 ([] ++ l)) (hl : l.length = n4) (hp : 0 < n4) (hg5 : W.grownBy w5 (Value.slice none 0 0).ownBlock) (hat : v5.ownBlock = (Value.slice none 0 0).ownBlock ∨ ∃ b, v5.ownBlock = some b ∧ W.heap.size ≤ b) :
    ∃ g6 c6, v5 = .slice (some ⟨g6, 0, none⟩) n4 c6 ∧ w4.heap.size ≤ g6 ∧ Below w4.heap.size w4 w5 ∧ k24.R 24 w5 nb (fun _ => True) (.slice (some ⟨g6, 0, none⟩) n4 c6) l ∧ W.heap.size ≤ w5.heap.size := by
  rw [List.nil_append] at hA5
  obtain ⟨g6, c6, rfl, -, -, -⟩ := Kd.R_form hA5 (by omega)
  rw [hl] at hA5 ⊢
  refine ⟨g6, c6, rfl, ?_, hW.grown hg5 hW.size (fun k e => by cases e), hA5, hg5.size⟩
  rcases hat with h | ⟨b, h, hb⟩
  · cases h
  · have e : g6 = b := by cases h; rfl
    have := hW.size
    omega
theorem grp_b {w4 W w7 : World} {nb n4 g6 c6 : Nat} {l : List S24} {h : S24} {v7 : Value} (hW : Below w4.heap.size w4 W) (hA : k24.R 24 W nb (fun _ => True) (.slice (some ⟨g6, 0, none⟩) n4 c6) l) (hA7 : k24.R 24 w7 nb (fun _ => True) v7 (l ++ [h])) (hg7 : W.grownBy w7 (Value.slice (some ⟨g6, 0, none⟩) n4 c6).ownBlock) (hl : l.length = n4)
    (hg6 : w4.heap.size ≤ g6 := by assumption) : ∃ c7 g7, v7 = .slice (some ⟨g7, 0, none⟩) (n4 + 1) c7 ∧ Below w4.heap.size w4 w7 ∧ k24.C w7 (some ⟨g7, 0, none⟩) (n4 + 1) (l ++ [h]) ∧ n4 + 1 ≤ c7 := by
  obtain ⟨g7, c7, rfl, -, -, -⟩ := Kd.R_form hA7 (by simp)
  have e1 : (l ++ [h]).length = n4 + 1 := by rw [List.length_append, hl]; rfl
  obtain ⟨-, h2, h3⟩ := Kd.R_reads' hA7
  rw [e1] at h2 h3 ⊢
  exact ⟨c7, g7, rfl, hW.grown hg7 hW.size (fun k e => by cases e; exact hg6), h3, h2⟩
/-- One table in a row of its own, read. -/
theorem row_one {W : World} {g : Nat} {x : S24} {A : Option Addr} {c : Nat} {R : S24 → List Value → Prop} (h : W.heap[g]? = some (.cells (specC x (.slice A x.f4.length c)) 24 (0, 0))) (hR : R x (specC x (.slice A x.f4.length c)).toList) : ReadsRow R 6 W (some ⟨g, 0, none⟩) 1 [x] := by
  refine ⟨rfl, by decide, fun hp => ⟨_, rfl, fun j p hj => ?_⟩⟩
  cases j with
  | succ j => cases hj
  | zero =>
    obtain rfl := Option.some.inj hj
    refine ⟨_, rfl, hR, fun i u hu => ?_⟩
    rw [add_at, Nat.zero_mul, Nat.zero_add, blk_cell h i]
    rw [← Array.getElem?_toList]
    exact hu
def toldB (l : List S24) : Bool := match remitterlaw18_told.f 400 l with | some true => true | _ => false
def grpOk (g : S24) : Bool := match g.f4 with | [] => true | h :: _ => h.f4.isEmpty || (decide (h.f1 = 1) && toldB (g.f4 ++ [h]))
theorem tab_facts (k : Int) (hk : k = 1 ∨ k = 2 ∨ k = 3 ∨ k = 4) : 4 ≤ (tabS k).f4.length ∧ (tabS k).f4.length ≤ 100 ∧ toldB ((tabS k).f4.drop 3) = true ∧ (tabS k).f4.all (fun g => grpOk g && decide (g.f4.length ≤ 100)) = true := by
  rcases hk with rfl | rfl | rfl | rfl <;> exact ⟨Nat.le_of_ble_eq_true (by kernel_rfl), Nat.le_of_ble_eq_true (by kernel_rfl), by kernel_rfl, by kernel_rfl⟩
theorem told_of {l : List S24} (h : toldB l = true) : remitterlaw18_told.f 400 l = some true := by
  unfold toldB at h
  cases hf : remitterlaw18_told.f 400 l with
  | none => rw [hf] at h; cases h
  | some b => rw [hf] at h; cases b with | true => rfl | false => cases h
set_option maxRecDepth 100000 in
set_option maxHeartbeats 8000000 in
theorem law_any (w : World) (hG : Glob w) : Calls Tryd.prog 3 #[] w fun e w' => e = .returned (.bool true) ∧ Below w.heap.size w w' := by
  have hu24 := Tryd.underlying24
  have HG := Lib.hid hG
  clear hG
  go_enter Tryd.func3, Tryd.ntmps3
  go_wp2_with fail
  go_loopg [1, 2, 3, 4, 5] 5 (fun kq v1 v2 v3 v4 v5 wr => ∃ k : Nat, v1 = .int .u8 k ∧ 1 ≤ k ∧ k ≤ 5 ∧ Aside0 (kq + k = 6) ∧ Hid (Below w.heap.size w wr))
  case atStart => exact ⟨1, rfl, Nat.le_refl _, by omega, ⟨rfl⟩, Lib.hid (Below.refl _ _)⟩
  case round =>
    obtain ⟨k, rfl, hk1, hk5, HKQ, HB⟩ := hrel
    by_cases hk4 : k ≤ 4
    · have hkk : (k : Int) = 1 ∨ (k : Int) = 2 ∨ (k : Int) = 3 ∨ (k : Int) = 4 := by omega
      have hd4 : decide ((k : Int) ≤ 4) = true := decide_eq_true (by omega)
      obtain ⟨f1, f2, f3, f4⟩ := tab_facts k hkk
      have ht := table_any k hkk wr (HG.out.below HB.out)
      unfold specV at ht
      generalize tabS (k : Int) = ts at ht f1 f2 f3 f4
      have HT := Lib.hid ht
      have HF3 := Lib.hid f3
      have HF4 := Lib.hid f4
      have HKK := Lib.hid hkk
      clear ht f3 f4 hkk
      obtain ⟨nb, hnb⟩ : ∃ nb, wr.heap.size = nb := ⟨_, rfl⟩
      go_wp2_with fail
      refine HT.out.mono ?_
      rintro e w1 ⟨v, rfl, hR, hb1⟩
      obtain ⟨g1, c, rfl, hg1b, hg1l, -⟩ := Kd.R_form hR (by omega)
      obtain ⟨-, hnc, hC⟩ := Kd.R_reads' hR
      have HB1 := Lib.hid (HB.out.trans (hb1.mono HB.out.size))
      have H0 := Lib.hid (Sbox.new w1 z24 (.slice none 0 0))
      have hz := below_alloc (Below.refl w1.heap.size w1) (.cells (specC ts (.slice (some ⟨g1, 0, none⟩) ts.f4.length c)) 24)
      have HX := Lib.hid (Sbox.new w1 ts (.slice (some ⟨g1, 0, none⟩) ts.f4.length c))
      have HB2 := Lib.hid (HB1.out.trans (hz.mono HB1.out.size))
      have HC := Lib.hid (Kd.C_below hC hz)
      rw [hnb] at hR
      have HRt := Lib.hid (Kd.R_below hR hz)
      have HNB := Lib.hid (show nb ≤ w1.heap.size from hnb ▸ hb1.size)
      clear hR hb1 hC hz HT hg1b hg1l HB1
      obtain ⟨z0, z1, z2, z3, z4, z5⟩ := H0.out.frozen
      obtain ⟨c0, c1, c2, c3, c4, c5⟩ := H0.out.cells
      unfold specC z24 at *
      dsimp only at *
      go_upto_region 5 with fail
      clear z0 z1 z2 z3 z4 z5 c0 c1 c2 c3 c4 c5 H0
      have HNB2 := Lib.hid (show nb ≤ (w1.alloc (.cells #[.string ts.f0, .int .i64 ts.f1, .int .i64 ts.f2, .string ts.f3, .slice (some ⟨g1, 0, none⟩) ts.f4.length c, .bool ts.f5] 24)).heap.size by have := HNB.out; simp; omega)
      clear HNB
      generalize w1.heap.size = gb at HX ⊢
      generalize w1.alloc _ = w2 at HX HB2 HC HRt HNB2 ⊢
      have hX2 : Sbox w2 gb ts (.slice (some ⟨g1, 0, none⟩) ts.f4.length c) := HX.out
      obtain ⟨k0, k1, k2, k3, k4, k5⟩ := hX2.cells
      have HX2 := Lib.hid hX2
      have q1 : decide ((ts.f4.length : Int) < 4) = false := decide_eq_false (by omega)
      have q2 : (3 : Int) ≤ (ts.f4.length : Int) := by omega
      clear hX2 HX
      have hcall := remitterlaw18_told.calls 400 (some ⟨g1, 18, none⟩) (c - 3) (ts.f4.drop 3) true w2 (by rw [List.length_drop]; exact C_drop HC.out 3 (by omega)) (by rw [List.length_drop]; omega) (told_of HF3.out)
      rw [List.length_drop] at hcall
      have HCall := Lib.hid hcall
      clear hcall
      go_wp2_with fail
      refine HCall.out.mono ?_
      rintro e w3 ⟨rfl, hb3⟩
      have HX3 := Lib.hid (Sbox.low (show Sbox w2 gb ts (.slice (some ⟨g1, 0, none⟩) ts.f4.length c) from HX2.out) hb3 (Sbox.lt HX2.out))
      have HR3 := Lib.hid (Kd.R_below HRt.out hb3)
      have HNB3 := Lib.hid (Nat.le_trans HNB2.out hb3.size)
      have HB3 := Lib.hid (HB2.out.trans (hb3.mono HB2.out.size))
      clear hb3 k0 k1 k2 k3 k4 k5 q1 q2 HCall HX2 HC HB2 HF3 HRt HNB2
      dsimp only
      go_wp2_with fail
      go_loopg [4, 5] (ts.f4.length + 1) (fun kq v4 v5 wr => ∃ i : Nat, v4 = .int .i64 i ∧ 3 ≤ i ∧ i ≤ ts.f4.length ∧ Aside0 (kq + i = ts.f4.length + 4) ∧ Hid (Below w3.heap.size w3 wr))
      case atStart => exact ⟨3, rfl, Nat.le_refl _, by omega, ⟨by omega⟩, Lib.hid (Below.refl _ _)⟩
      case round =>
        obtain ⟨i, rfl, hi3, hin, HKQ2, HBi⟩ := hrel
        have hXi : Sbox wr gb ts (.slice (some ⟨g1, 0, none⟩) ts.f4.length c) := Sbox.low (show Sbox w3 gb ts (.slice (some ⟨g1, 0, none⟩) ts.f4.length c) from HX3.out) HBi.out (Sbox.lt HX3.out)
        have k4 := hXi.cells.2.2.2.2.1
        by_cases hlt : i < ts.f4.length
        · have hd : decide ((i : Int) < (ts.f4.length : Int)) = true := decide_eq_true (by omega)
          have hdi : ((i : Int) < (ts.f4.length : Int)) := by omega
          obtain ⟨cc, hcl, hM, hcc, -⟩ := Kd.R_elem (Kd.R_below HR3.out HBi.out) z24 (i : Int) (by omega) (by omega)
          rw [Int.toNat_natCast] at hM hcc
          have hel : ts.f4.getD i z24 = ts.f4[i] := by simp [List.getD, hlt]
          rw [hel] at hM
          have hok := List.all_eq_true.1 HF4.out ts.f4[i] (List.getElem_mem hlt)
          generalize ts.f4[i] = el at hM hok
          obtain ⟨v4, rfl, hR4⟩ := k24_openM hM
          obtain ⟨A4, c4, rfl⟩ := Kd.R_slice hR4
          have y0 := hcc 0 _ rfl
          have y1 := hcc 1 _ rfl
          have y2 := hcc 2 _ rfl
          have y3 := hcc 3 _ rfl
          have y4 := hcc 4 _ rfl
          have y5 := hcc 5 _ rfl
          simp only [show k24.sz = 6 from rfl, Nat.add_zero] at y0 y1 y2 y3 y4 y5
          have hba := below_alloc (Below.refl wr.heap.size wr) (.cells #[.string el.f0, .int .i64 el.f1, .int .i64 el.f2, .string el.f3, .slice A4 el.f4.length c4, .bool el.f5] 24)
          have hbx := World.alloc_heap_new wr (.cells #[.string el.f0, .int .i64 el.f1, .int .i64 el.f2, .string el.f3, .slice A4 el.f4.length c4, .bool el.f5] 24)
          have HR4 := Lib.hid (Kd.R_below hR4 hba)
          have HBx := Lib.hid hbx
          have HBj := Lib.hid (HBi.out.trans (hba.mono HBi.out.size))
          have HNB4 := Lib.hid (Nat.le_trans HNB3.out HBj.out.size)
          have HOK := Lib.hid hok
          clear hR4 hM hcc hel hba hbx hok hXi
          go_upto_region 11 with fail
          clear y0 y1 y2 y3 y4 y5 k4
          generalize wr.heap.size = gt at HBx ⊢
          generalize wr.alloc _ = w4 at HBx HBj HR4 HNB4 ⊢
          have t4 := blk_cell HBx.out 4
          obtain ⟨e0, e1, e2, e3, ks, e5⟩ := el
          dsimp only at t4 HR4 HOK ⊢
          cases ks with
          | nil =>
            go_region
            all_goals
              go_wp2_with fail
              go_roundg (ts.f4.length + 3 - i)
              case measure => have := HKQ2.out; omega
              case rel => exact ⟨i + 1, by go_num, by omega, by omega, ⟨by omega⟩, Lib.hid HBj.out.drew⟩
          | cons h tl =>
            obtain ⟨g4, c4', hv4, -, -, -⟩ := Kd.R_form HR4.out (by simp)
            injection hv4 with hA4 _ hc4'
            subst hA4 hc4'
            obtain ⟨cc, hcl, hM, hcc, -⟩ := Kd.R_elem HR4.out z24 (0 : Int) (by omega) (by first | (simp; done) | (simp; omega))
            rw [show (h :: tl).getD (0 : Int).toNat z24 = h from rfl] at hM
            obtain ⟨v5, rfl, hR5⟩ := k24_openM hM
            obtain ⟨A5, c5, rfl⟩ := Kd.R_slice hR5
            have y0 := hcc 0 _ rfl
            have y1 := hcc 1 _ rfl
            have y2 := hcc 2 _ rfl
            have y3 := hcc 3 _ rfl
            have y4 := hcc 4 _ rfl
            have y5 := hcc 5 _ rfl
            simp at y0 y1 y2 y3 y4 y5
            have HR5 := Lib.hid hR5
            have hgo := HOK.out
            clear hM hcc hR5
            obtain ⟨n4, hn4⟩ : ∃ n4, (h :: tl).length = n4 := ⟨_, rfl⟩
            have hn4p : 0 < n4 := by rw [← hn4]; simp
            have hn4l : n4 ≤ 100 := by rw [← hn4]; rw [Bool.and_eq_true] at hgo; exact of_decide_eq_true hgo.2
            rw [hn4] at t4
            have q0 : decide ((0 : Int) < (n4 : Int)) = true := decide_eq_true (by omega)
            have q0' : (0 : Int) < (n4 : Int) := by omega
            obtain ⟨h0, h1, h2, h3, hk, h5⟩ := h
            dsimp only at y0 y1 y2 y3 y4 y5 HR5 hgo
            cases hk with
            | nil =>
              go_region
              all_goals
                go_wp2_with fail
                go_roundg (ts.f4.length + 3 - i)
                case measure => have := HKQ2.out; omega
                case rel => exact ⟨i + 1, by go_num, by omega, by omega, ⟨by omega⟩, Lib.hid HBj.out.drew⟩
            | cons p q =>
              rw [Bool.and_eq_true] at hgo
              have hgo1 := hgo.1
              unfold grpOk at hgo1
              simp only [List.isEmpty_cons, Bool.false_or, Bool.and_eq_true, decide_eq_true_eq] at hgo1
              obtain ⟨hone, htd⟩ := hgo1
              subst hone
              have HTD := Lib.hid (told_of htd)
              clear htd hgo
              have hRh : ∀ (W : World) (g : Nat), W.heap[g]? = some (.cells #[.string h0, .int .i64 1, .int .i64 h2, .string h3, .slice A5 (p :: q).length c5, .bool h5] 24 (0, 0)) → ReadsRow (k24.M w4 nb (fun k => (((True ∧ k ≠ g1) ∧ k ≠ g4)) ∧ nb ≤ k ∧ k < w4.heap.size ∧ ∃ t, t ∈ 24 :: k24.E ∧ ∃ cells, w4.heap[k]? = some (.cells cells t (0, 0)))) 6 W (some ⟨g, 0, none⟩) 1 [(⟨h0, 1, h2, h3, p :: q, h5⟩ : S24)] :=
                fun W g hg => row_one (x := ⟨h0, 1, h2, h3, p :: q, h5⟩) (A := A5) (c := c5) hg (k24_mkM _ _ _ (⟨h0, 1, h2, h3, p :: q, h5⟩ : S24) (Kd.R_bound HR5.out))
              obtain ⟨p5, hp5⟩ : ∃ p5, (p :: q).length = p5 := ⟨_, rfl⟩
              have hp5p : 0 < p5 := by rw [← hp5]; simp
              rw [hp5] at y4 hRh
              have q5 : decide ((0 : Int) < (p5 : Int)) = true := decide_eq_true (by omega)
              have q5' : (0 : Int) < (p5 : Int) := by omega
              obtain ⟨Ax, cx, hvx, -, hrw⟩ := OwnRow.reads HR4.out.2
              injection hvx with hAx _ hcx
              subst hAx hcx
              obtain ⟨hh, hhh⟩ : ∃ hh, (⟨h0, 1, h2, h3, p :: q, h5⟩ : S24) = hh := ⟨_, rfl⟩
              rw [hhh] at hrw HTD HR4 hn4 hRh
              obtain ⟨hl, hhl⟩ : ∃ hl, hh :: tl = hl := ⟨_, rfl⟩
              rw [hhl] at hrw HTD HR4 hn4
              rw [hn4] at hrw HR4
              obtain ⟨okk, hokk⟩ : ∃ okk : Nat → Prop, (fun k => (True ∧ k ≠ g1) ∧ some k ≠ (Value.slice (some ⟨g4, 0, none⟩) n4 c4).ownBlock) = okk := ⟨_, rfl⟩
              rw [hokk] at hrw
              have mk : ∀ (ok : Nat → Prop) (W : World), Below w4.heap.size w4 W → ∀ (x : S24) (cs : List Value), k24.M w4 nb ok x cs → k24.M W nb ok x cs := fun ok W hb x cs h => by
                obtain ⟨v, rfl, r⟩ := k24_openM h
                exact k24_mkM _ _ _ x (Kd.R_below r hb)
              have HKM := Lib.hid (mk okk)
              obtain ⟨okh, hokh⟩ : ∃ okh : Nat → Prop, (fun k => (((True ∧ k ≠ g1) ∧ k ≠ g4)) ∧ nb ≤ k ∧ k < w4.heap.size ∧ ∃ t, t ∈ 24 :: k24.E ∧ ∃ cells, w4.heap[k]? = some (.cells cells t (0, 0))) = okh := ⟨_, rfl⟩
              have hlt4 : ∀ k, okh k → k < w4.heap.size := fun k hk => by rw [← hokh] at hk; exact hk.2.2.1
              have HKH := Lib.hid (mk okh)
              rw [hokh] at hRh
              obtain ⟨Rk, hRk⟩ : ∃ Rk, k24.M w4 nb okk = Rk := ⟨_, rfl⟩
              obtain ⟨Rh, hRh'⟩ : ∃ Rh, k24.M w4 nb okh = Rh := ⟨_, rfl⟩
              rw [hRk] at hrw HKM
              rw [hRh'] at hRh HKH
              have HRW := Lib.hid hrw
              have HR1 := Lib.hid hRh
              have HN4 := Lib.hid hn4
              have HLT4 := Lib.hid hlt4
              have HLN := Lib.hid (show (hl ++ [hh]).length = n4 + 1 by rw [List.length_append, hn4]; rfl)
              clear hrw hRh mk hlt4 hokh hokk hRk hRh' hhl hhh hn4 hp5 HR5
              have hal1 := below_alloc (Below.refl w4.heap.size w4) (.cells #[.string ⟨#[]⟩, .int .i64 0, .int .i64 0, .string ⟨#[]⟩, .slice none 0 0, .bool false] 24)
              have hal2 := below_alloc (Below.refl w4.heap.size w4) (.cells #[.string h0, .int .i64 1, .int .i64 h2, .string h3, .slice A5 p5 c5, .bool h5] 24)
              have ta := cellB' hal1 t4
              have ya0 := cellB' hal1 y0
              have ya1 := cellB' hal1 y1
              have ya2 := cellB' hal1 y2
              have ya3 := cellB' hal1 y3
              have ya4 := cellB' hal1 y4
              have ya5 := cellB' hal1 y5
              have tb := cellB' hal2 t4
              have yb0 := cellB' hal2 y0
              have yb1 := cellB' hal2 y1
              have yb2 := cellB' hal2 y2
              have yb3 := cellB' hal2 y3
              have yb4 := cellB' hal2 y4
              have yb5 := cellB' hal2 y5
              clear hal1 hal2
              go_region_law (first | (refine Kd.R_append_rows_step k24 (Rr := Rk) (w0 := w4) nb (by rfl) (.const (.slice none 0 0)) (.tmp 64) 22 24 (.agg #[.string ⟨#[]⟩, .int .i64 0, .int .i64 0, .string ⟨#[]⟩, .slice none 0 0, .bool false]) 80 (by rfl) und22 info24 rfl (by decide) (by decide) (.slice none 0 0) [] hl (some ⟨g4, 0, none⟩) n4 c4 (fun _ => True) okk (by simp [Act.eval, Act.put]) (by simp [Act.eval, Act.put]) (Kd.R_nil _ _ _ _ _) (ReadsRow.imp_ HRW.out (by repeat (first | exact Below.refl _ _ | apply below_drew | apply pw_below_drewN | apply below_alloc)) (fun _ _ h => h)) (HKM.out _ (by repeat (first | exact Below.refl _ _ | apply below_drew | apply pw_below_drewN | apply below_alloc))) (fun _ _ => ⟨trivial, by simp [Value.ownBlock]⟩) (fun _ _ => trivial) (Below.mono (B := w4.heap.size) (by repeat (first | exact Below.refl _ _ | apply below_drew | apply pw_below_drewN | apply below_alloc)) HNB4.out) (by simp; have := HNB4.out; omega) (by simp; omega) ?_; intro v5 w5 hA5 hb5 hg5 hat5; obtain ⟨g6, c6, hv5, hg6, hb45, hA6, hs5⟩ := grp_a (w4 := w4) (by repeat (first | exact Below.refl _ _ | apply below_drew | apply pw_below_drewN | apply below_alloc)) hA5 HN4.out hn4p hg5 hat5; subst hv5; have s4 := cellB' hb45 t4; have x0 := cellB' hb45 y0; have x1 := cellB' hb45 y1; have x2 := cellB' hb45 y2; have x3 := cellB' hb45 y3; have x4 := cellB' hb45 y4; have x5 := cellB' hb45 y5; have l6 := tlt (hb45.block _ (tlt HBx.out) |>.trans HBx.out); (first | (have hx5 : w5.heap[w4.heap.size]? = some (.cells #[.string h0, .int .i64 1, .int .i64 h2, .string h3, .slice A5 p5 c5, .bool h5] 24 (0, 0)) := (hg5.block w4.heap.size (by simp) (by simp [Value.ownBlock])).trans (World.alloc_heap_new w4 _); have HX5 := Lib.hid hx5; clear hx5) | skip); have HA6 := Lib.hid hA6; have HB45 := Lib.hid hb45; clear hA5 hb5 hg5 hat5 hb45 hA6) | (refine Kd.R_append_rows_step k24 (Rr := Rh) (w0 := w4) nb (by rfl) (.tmp 65) (.tmp 70) 22 24 (.agg #[.string ⟨#[]⟩, .int .i64 0, .int .i64 0, .string ⟨#[]⟩, .slice none 0 0, .bool false]) 80 (by rfl) und22 info24 rfl (by decide) (by decide) (.slice (some ⟨g6, 0, none⟩) n4 c6) hl [hh] (some ⟨w4.heap.size, 0, none⟩) 1 1 (fun _ => True) okh (by simp [Act.eval, Act.put]) (by simp [Act.eval, Act.put]) HA6.out (HR1.out _ _ HX5.out) (HKH.out _ HB45.out) (fun k hk => ⟨trivial, fun e => absurd (Option.some.inj e) (Nat.ne_of_lt (Nat.lt_of_lt_of_le (HLT4.out k hk) hg6))⟩) (fun _ _ => trivial) (Below.mono HB45.out HNB4.out) (by have := HNB4.out; have := HB45.out.size; omega) (by rw [HN4.out]; omega) ?_; intro v7 w7 hA7 hb7 hg7 hat7; obtain ⟨c7, g7, hv7, hb47, hC7, hc7⟩ := grp_b HB45.out HA6.out hA7 hg7 HN4.out hg6; subst hv7; have HB47 := Lib.hid hb47; have HC7 := Lib.hid hC7; have HC7c := Lib.hid hc7; clear hA7 hb7 hg7 hat7 hb47 hC7 hc7) | (refine Kd.R_append_rows_step k24 (Rr := Rh) (w0 := w4) nb (by rfl) (.tmp 65) (.tmp 70) 22 24 (.agg #[.string ⟨#[]⟩, .int .i64 0, .int .i64 0, .string ⟨#[]⟩, .slice none 0 0, .bool false]) 80 (by rfl) und22 info24 rfl (by decide) (by decide) (.slice (some ⟨g6, 0, none⟩) n4 c6) hl [hh] (some ⟨w5.heap.size, 0, none⟩) 1 1 (fun _ => True) okh (by simp [Act.eval, Act.put]) (by simp [Act.eval, Act.put]) (Kd.R_below HA6.out (by repeat (first | exact Below.refl _ _ | apply below_drew | apply pw_below_drewN | apply below_alloc))) (HR1.out _ _ (World.alloc_heap_new w5 _)) (HKH.out _ (HB45.out.trans (Below.mono (B := w5.heap.size) (by repeat (first | exact Below.refl _ _ | apply below_drew | apply pw_below_drewN | apply below_alloc)) HB45.out.size))) (fun k hk => ⟨trivial, fun e => absurd (Option.some.inj e) (Nat.ne_of_lt (Nat.lt_of_lt_of_le (HLT4.out k hk) hg6))⟩) (fun _ _ => trivial) (Below.mono (HB45.out.trans (Below.mono (B := w5.heap.size) (by repeat (first | exact Below.refl _ _ | apply below_drew | apply pw_below_drewN | apply below_alloc)) HB45.out.size)) HNB4.out) (by simp; have := HNB4.out; have := HB45.out.size; omega) (by rw [HN4.out]; omega) ?_; intro v7 w7 hA7 hb7 hg7 hat7; obtain ⟨c7, g7, hv7, hb47, hC7, hc7⟩ := grp_b (HB45.out.trans (Below.mono (B := w5.heap.size) (by repeat (first | exact Below.refl _ _ | apply below_drew | apply pw_below_drewN | apply below_alloc)) HB45.out.size)) (Kd.R_below HA6.out (by repeat (first | exact Below.refl _ _ | apply below_drew | apply pw_below_drewN | apply below_alloc))) hA7 hg7 HN4.out hg6; subst hv7; have HB47 := Lib.hid hb47; have HC7 := Lib.hid hC7; have HC7c := Lib.hid hc7; clear hA7 hb7 hg7 hat7 hb47 hC7 hc7) | (have hq7 := HB47; clear hq7; go_simp; have hc := remitterlaw18_told.calls 400 (some ⟨g7, 0, none⟩) c7 (hl ++ [hh]) true w7 (by rw [HLN.out]; exact HC7.out) (by rw [HLN.out]; exact HC7c.out) HTD.out; rw [HLN.out] at hc; refine hc.mono ?_; clear hc; rintro e w8 ⟨rfl, hb8⟩; have HB8 := Lib.hid (HB47.out.trans (Below.mono hb8 HB47.out.size)); clear hb8))
              all_goals
                trace "WAY G"
                go_wp2_with fail
                go_roundg (ts.f4.length + 3 - i)
                case measure => have := HKQ2.out; omega
                case rel => exact ⟨i + 1, by go_num, by omega, by omega, ⟨by omega⟩, Lib.hid (HBj.out.trans (HB8.out.mono HBj.out.size))⟩
        · have hie : i = ts.f4.length := by omega
          subst hie
          have hd : decide ((ts.f4.length : Int) < (ts.f4.length : Int)) = false := decide_eq_false (by omega)
          have HBo := Lib.hid (HB3.out.trans (HBi.out.mono HB3.out.size))
          have hw : IntKind.u8.wrap ((k : Int) + 1) = (k : Int) + 1 := u8_succ k hk1 hk4
          go_wp2_with fail
          go_roundg (5 - k)
          case measure =>
            have := HKQ.out
            omega
          case rel => exact ⟨k + 1, by go_num, by omega, by omega, ⟨by omega⟩, HBo⟩
    · have hk : k = 5 := by omega
      subst hk
      go_wp2_with fail
      refine (wakes_any wr (HG.out.below HB.out)).mono ?_
      rintro e w1 ⟨rfl, hb1⟩
      have HB1 := Lib.hid (HB.out.trans (hb1.mono HB.out.size))
      clear hb1
      go_wp2_with fail
      go_ret
      exact ⟨rfl, HB1.out⟩
end Go.Proofs.YtepphihcggppbaaDoor.A
