/- OutTells, walked by hand. -/
import Derived.Test.YtknfpggiigncpaaGreatDoorOt19
set_option linter.unusedVariables false
set_option linter.unusedSimpArgs false
namespace Go.Proofs.YtknfpggiigncpaaGreatDoor.E
open Go.RowKit Go.Proofs.YtknfpggiigncpaaGreatDoor.P Go.Proofs.YtknfpggiigncpaaGreatDoorW.PrintLast Go.Proofs.YtknfpggiigncpaaGreatDoorW.PrintMore
open Go.Proofs.YtknfpggiigncpaaGreatDoorW.PrintWords

set_option maxHeartbeats 8000000 in
set_option maxRecDepth 100000 in
theorem tells_any (space : ByteArray) (v : S24) (A : Option Addr) (c : Nat) (w : World) (hr : k24.C w A v.f2.length v.f2) (hc : v.f2.length ≤ c) (hG : Glob w) (hfit : fitL [v]) :
    Calls Tryz.prog 3 #[.string space, .agg #[.string v.f0, .string v.f1, .slice A v.f2.length c]] w fun e w' => e = .returned (.bool true) ∧ Below w.heap.size w w' := by
  have hu24 := Tryz.underlying24
  obtain ⟨gr, ⟨KG, hKG⟩, hgr⟩ := great_ev [v] hfit (by simp)
  have hb1 := below_alloc (below_alloc (Below.refl w.heap.size w) (.cells #[.string v.f0, .string v.f1, .slice A v.f2.length c] 24)) (.cells #[.string v.f0, .string v.f1, .slice A v.f2.length c] 24)
  have hT : T1 w w.heap.size v A c ((w.alloc (.cells #[.string v.f0, .string v.f1, .slice A v.f2.length c] 24)).alloc (.cells #[.string v.f0, .string v.f1, .slice A v.f2.length c] 24)) :=
    ⟨hb1, (Below.heap_alloc _ _ _ (by simp)).trans (cells_al _ _ _), hG.below hb1, Kd.C_below hr hb1⟩
  have hC1 : k24.C ((w.alloc (.cells #[.string v.f0, .string v.f1, .slice A v.f2.length c] 24)).alloc (.cells #[.string v.f0, .string v.f1, .slice A v.f2.length c] 24)) (some ⟨w.heap.size + 1, 0, none⟩) 1 [v] :=
    row_one _ _ 24 v A c hc hT.2.2.2 (by have := cells_al (w.alloc (.cells #[.string v.f0, .string v.f1, .slice A v.f2.length c] 24)) #[.string v.f0, .string v.f1, .slice A v.f2.length c] 24; rw [World.size_alloc] at this; exact this)
  have HT := Lib.hid hT
  have HC1 := Lib.hid hC1
  have HGR := Lib.hid hgr
  clear hr hG hb1 hT hC1 hgr
  go_enter Tryz.func3, Tryz.ntmps3
  go_wp2_with fail
  refine (remitterlaw10_Great.calls KG (some ⟨w.heap.size + 1, 0, none⟩) 1 [v] gr _ HC1.out (Nat.le_refl _) (hKG KG (Nat.le_refl _))).mono ?_
  rintro e w2 ⟨rfl, hb2⟩
  have HT2 := Lib.hid (HT.out.step hb2)
  clear hb2 HT HC1
  cases gr with
  | true =>
    go_wp2_with fail
    refine (wakes_any w2 HT2.out.2.2.1).mono ?_
    rintro e w3 ⟨rfl, hb3⟩
    have HT3 := Lib.hid (HT2.out.step hb3)
    clear hb3
    go_wp2_with fail
    go_ret
    exact ⟨rfl, HT3.out.1⟩
  | false =>
    by_cases hsp : space.size ≤ 200
    · have hspd : decide ((200 : Int) < (space.size : Int)) = false := decide_eq_false (by omega)
      obtain ⟨hcn, hsm⟩ := HGR.out rfl
      have q1 : v.f0.size + v.f1.size < 2000 ∧ smallL v.f2 ∧ cntL v.f2 ≤ 1000 := by
        obtain ⟨a, b, l⟩ := v
        simp only [cntL] at hcn
        simp only [smallL] at hsm
        exact ⟨hsm.1, hsm.2.1, by simp only; omega⟩
      have h1 := q1.1
      have h3 := q1.2.2
      have HS2 := Lib.hid q1.2.1
      clear q1 hsm hcn
      obtain ⟨KT, hKT⟩ := twin_ev v h3
      obtain ⟨KW, hKW⟩ := write_ev space v hsp h1 HS2.out h3
      obtain ⟨KM, hKM⟩ := may_ev v h1 HS2.out h3
      obtain ⟨KS, hKS⟩ := same_ev v h3
      have aT := Lib.hid (hKT KT (Nat.le_refl _))
      have aW := Lib.hid (hKW KW (Nat.le_refl _))
      have aM := Lib.hid (hKM KM (Nat.le_refl _))
      have aS := Lib.hid (hKS KS (Nat.le_refl _))
      clear hKT hKW hKM hKS hKG
      obtain ⟨c0, c1, c2⟩ := HT2.out.2.1.cells
      go_wp2_with fail
      refine (remitterref10_Twin.calls KT v.f0 v.f1 A c v.f2 v.f0 v.f1 v.f2 _ HT2.out.2.2.2 hc aT.out).mono ?_
      rintro e w3 ⟨v2, rfl, hR3, hb3⟩
      obtain ⟨A2, c2x, rfl, l2, hC3⟩ := Kd.R_reads hR3
      have HT3 := Lib.hid (HT2.out.step hb3)
      have hU3 : T1 w3 w3.heap.size v A2 c2x (w3.alloc (.cells #[.string v.f0, .string v.f1, .slice A2 v.f2.length c2x] 24)) :=
        ⟨below_alloc (Below.refl _ _) _, cells_al _ _ _, HT3.out.2.2.1.below (below_alloc (Below.refl _ _) _), Kd.C_below hC3 (below_alloc (Below.refl _ _) _)⟩
      have HT4 := Lib.hid (HT3.out.step (below_alloc (Below.refl w3.heap.size w3) (.cells #[.string v.f0, .string v.f1, .slice A2 v.f2.length c2x] 24)))
      have HU4 := Lib.hid hU3
      clear hb3 hR3 hC3 hU3 HT3 HT2 c0 c1 c2
      obtain ⟨c0, c1, c2⟩ := HT4.out.2.1.cells
      go_wp2_with fail
      refine (remitterref11_Write.calls KW space v.f0 v.f1 A c v.f2 (writeT space v).1 (writeT space v).2 _ HT4.out.2.2.2 hc aW.out).mono ?_
      rintro e w5 ⟨rfl, hb5⟩
      have HT5 := Lib.hid (HT4.out.step hb5)
      have HU5 := Lib.hid (HU4.out.step hb5)
      clear hb5 HT4 HU4 c0 c1 c2
      obtain ⟨c0, c1, c2⟩ := HT5.out.2.1.cells
      go_wp2_with fail
      refine (remitterref11_May.calls KM v.f0 v.f1 A c v.f2 (mayP v) _ HT5.out.2.2.2 hc aM.out).mono ?_
      rintro e w6 ⟨rfl, hb6⟩
      have HT6 := Lib.hid (HT5.out.step hb6)
      have HU6 := Lib.hid (HU5.out.step hb6)
      clear hb6 HT5 HU5 c0 c1 c2
      obtain ⟨c0, c1, c2⟩ := HT6.out.2.1.cells
      obtain ⟨d0, d1, d2⟩ := HU6.out.2.1.cells
      go_wp2_with fail
      refine (write_any space v A2 c2x _ hsp HU6.out.2.2.2 l2 HU6.out.2.2.1 h1 HS2.out h3).mono ?_
      rintro e w7 ⟨rfl, hb7⟩
      have HT7 := Lib.hid (HT6.out.step hb7)
      have HU7 := Lib.hid (HU6.out.step hb7)
      clear hb7 HT6 HU6 c0 c1 c2 d0 d1 d2
      obtain ⟨d0, d1, d2⟩ := HU7.out.2.1.cells
      obtain ⟨c0, c1, c2⟩ := HT7.out.2.1.cells
      go_wp2_with fail
      refine (may_any v A2 c2x _ HU7.out.2.2.2 l2 HU7.out.2.2.1 (smallT_of 65 v h1 HS2.out h3) h3).mono ?_
      rintro e w8 ⟨rfl, hb8⟩
      have HT8 := Lib.hid (HT7.out.step hb8)
      have HU8 := Lib.hid (HU7.out.step hb8)
      clear hb8 HT7 HU7 c0 c1 c2 d0 d1 d2
      obtain ⟨d0, d1, d2⟩ := HU8.out.2.1.cells
      obtain ⟨c0, c1, c2⟩ := HT8.out.2.1.cells
      go_wp2_with fail
      refine (remitterref10_Same.calls KS v.f0 v.f1 A2 c2x v.f2 v.f0 v.f1 A c v.f2 true _ HU8.out.2.2.2 l2 HT8.out.2.2.2 hc aS.out).mono ?_
      rintro e w9 ⟨rfl, hb9⟩
      have HT9 := Lib.hid (HT8.out.step hb9)
      clear hb9 HT8 HU8 c0 c1 c2 d0 d1 d2
      go_wp2_with fail
      refine (wakes_any _ HT9.out.2.2.1).mono ?_
      rintro e w10 ⟨rfl, hb10⟩
      have HT10 := Lib.hid (HT9.out.step hb10)
      clear hb10 HT9
      go_wp2_with fail
      go_ret
      exact ⟨rfl, HT10.out.1⟩
    · have hspd : decide ((200 : Int) < (space.size : Int)) = true := decide_eq_true (by omega)
      go_wp2_with fail
      refine (wakes_any w2 HT2.out.2.2.1).mono ?_
      rintro e w3 ⟨rfl, hb3⟩
      have HT3 := Lib.hid (HT2.out.step hb3)
      clear hb3
      go_wp2_with fail
      go_ret
      exact ⟨rfl, HT3.out.1⟩
end Go.Proofs.YtknfpggiigncpaaGreatDoor.E
