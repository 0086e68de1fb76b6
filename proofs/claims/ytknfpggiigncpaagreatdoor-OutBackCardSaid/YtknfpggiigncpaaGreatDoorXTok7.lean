/- token's forms, and which one a text begins with: their contracts. -/
import Derived.Test.YtknfpggiigncpaaGreatDoorXTok6
set_option maxHeartbeats 8000000
set_option maxRecDepth 100000
set_option linter.unusedVariables false
set_option linter.unusedSimpArgs false
namespace Go.Proofs.YtknfpggiigncpaaGreatDoor.C
open Go.RowKit P A YtknfpggiigncpaaGreatDoorW.PrintWords YtknfpggiigncpaaGreatDoorW.PrintLast YtknfpggiigncpaaGreatDoorW.PrintMore
def formCells : Array Value := #[.string ⟨#[60, 33, 45, 45]⟩, .func (.func 124) #[] #[], .string ⟨#[60, 33, 91, 67, 68, 65, 84, 65, 91]⟩, .func (.func 125) #[] #[], .string ⟨#[60, 47]⟩, .func (.func 126) #[] #[], .string ⟨#[60]⟩, .func (.func 130) #[] #[]]
theorem forms_any (w : World) : Calls Tryz.prog 92 #[] w fun e w' => e = .returned (.slice (some ⟨w.heap.size, 0, none⟩) 4 4) ∧ w' = w.alloc (.cells formCells 130) := by
 go_enter Tryz.func92, Tryz.ntmps92
 go_wp2
 go_ret
 exact ⟨rfl, rfl⟩
theorem begins_any (g gv : Nat) (s : ByteArray) (p : Nat) (ov fv : Value) (bg : ByteArray) (b : Bool) (w : World) (h : Rd g s p ov w) (hv : w.cell? ⟨gv, 0, none⟩ = some (.pointer (some ⟨g, 0, none⟩))) (hp : p ≤ s.size) (hs : s.size ≤ 1048576)
  (hfv : ∃ k, fv = .func (.func k) #[] #[]) (hb : Lib.hasPrefix (rs s p) bg.data.toList = b) :
  Calls Tryz.prog 93 #[.agg #[.string bg, fv], .pointer (some ⟨gv, 0, none⟩)] w fun e w' => e = .returned (.bool b) ∧ Below w.heap.size w w' := by
 obtain ⟨k, rfl⟩ := hfv
 have hlt := World.block_lt_of_cell? w _ hv
 have hv' := cellBelow (below_alloc (Below.refl _ _) (.cells #[.string bg, .func (.func k) #[] #[]] 130)) hv
 have H := Lib.hid (rd_alloc h (.cells #[.string bg, .func (.func k) #[] #[]] 130))
 have hPre := hasPrefix_any (s.extract p s.size) bg b (by rw [rs_ext]; exact hb)
 clear h hv hb
 go_enter Tryz.func93, Tryz.ntmps93
 go_wp2_with fail
 go_quiet ((first | (go_at_call 94; exact Calls.quiet_of (rest_any g s p ov _ (H.out.drewN _) hp hs)) | (go_at_call 80; exact Calls.quiet_of (hPre _))))
 go_wp2_with fail
 go_ret
 exact ⟨rfl, pw_below_drewN (below_alloc (Below.refl _ _) _) _⟩
def formI (l : List UInt8) : Option Nat :=
 if Lib.hasPrefix l [60, 33, 45, 45] = true then some 0
 else if Lib.hasPrefix l [60, 33, 91, 67, 68, 65, 84, 65, 91] = true then some 1
 else if Lib.hasPrefix l [60, 47] = true then some 2
 else if Lib.hasPrefix l [60] = true then some 3 else none
def formZ (o : Option Nat) : Int := match o with | some i => (i : Int) | none => -1
def noneB (l : List UInt8) (i : Nat) : Prop := (0 < i → Lib.hasPrefix l [60, 33, 45, 45] = false) ∧ (1 < i → Lib.hasPrefix l [60, 33, 91, 67, 68, 65, 84, 65, 91] = false) ∧ (2 < i → Lib.hasPrefix l [60, 47] = false) ∧ (3 < i → Lib.hasPrefix l [60] = false)
theorem noneB_zero (l : List UInt8) : noneB l 0 := ⟨fun h => absurd h (by omega), fun h => absurd h (by omega), fun h => absurd h (by omega), fun h => absurd h (by omega)⟩
theorem form_idx (g gv gf : Nat) (s : ByteArray) (p : Nat) (ov : Value) (w : World) (h : Rd g s p ov w) (hv : w.cell? ⟨gv, 0, none⟩ = some (.pointer (some ⟨g, 0, none⟩))) (hp : p ≤ s.size) (hs : s.size ≤ 1048576) (hf : w.heap[gf]? = some (.cells formCells 130 (0, 0))) :
  Calls Tryz.prog 91 #[.slice (some ⟨gf, 0, none⟩) 4 4, .func (.func 93) #[] #[.pointer (some ⟨gv, 0, none⟩)]] w fun e w' => e = .returned (.int .i64 (formZ (formI (rs s p)))) ∧ Below w.heap.size w w' := by
 have H := Lib.hid h
 have HV := Lib.hid hv
 have HF := Lib.hid hf
 obtain ⟨Z, hZ⟩ : ∃ Z, formZ (formI (rs s p)) = Z := ⟨_, rfl⟩
 rw [hZ]
 have HZ := Lib.hid hZ
 clear h hv hf hZ
 go_enter Tryz.func91, Tryz.ntmps91
 go_wp2_with fail
 go_loopg [8] 5 (fun kq v8 wr => ∃ i : Nat, v8 = .int .i64 i ∧ i ≤ 4 ∧ Aside0 (kq + i = 5) ∧ Aside0 (noneB (rs s p) i) ∧ Aside0 (Below w.heap.size w wr))
 case atStart => exact ⟨0, rfl, by omega, ⟨rfl⟩, ⟨noneB_zero _⟩, ⟨Below.refl _ _⟩⟩
 case round =>
  obtain ⟨i, rfl, hi, HK, HM, HBl⟩ := hrel
  have hfw : wr.heap[gf]? = some (.cells formCells 130 (0, 0)) := (HBl.out.block gf (Array.getElem?_eq_some_iff.1 HF.out).1).trans HF.out
  have hvw := cellBelow HBl.out HV.out
  have hRw := H.out.below HBl.out
  by_cases hi0 : i = 0
  ·
   subst hi0
   have k0 := (cell_of_row _ _ 0 _ _ _ hfw).trans (show formCells[0]? = some (.string ⟨#[60, 33, 45, 45]⟩) from rfl)
   have k1 := (cell_of_row _ _ 1 _ _ _ hfw).trans (show formCells[1]? = some (.func (.func 124) #[] #[]) from rfl)
   clear hfw
   cases hb : Lib.hasPrefix (rs s p) [60, 33, 45, 45] with
   | true =>
    have hC := begins_any g gv s p ov (.func (.func 124) #[] #[]) ⟨#[60, 33, 45, 45]⟩ true wr hRw hvw hp hs ⟨_, rfl⟩ hb
    go_wp2_with fail
    refine hC.mono ?_
    rintro e w1 ⟨rfl, hb1⟩
    have hz : (0 : Int) = Z := by
     rw [← HZ.out]
     unfold formI
     rw [ if_pos hb]
     rfl
    subst hz
    go_wp2_with fail
    go_ret
    exact ⟨rfl, HBl.out.trans (hb1.mono HBl.out.size)⟩
   | false =>
    have hC := begins_any g gv s p ov (.func (.func 124) #[] #[]) ⟨#[60, 33, 45, 45]⟩ false wr hRw hvw hp hs ⟨_, rfl⟩ hb
    go_wp2_with fail
    refine hC.mono ?_
    rintro e w1 ⟨rfl, hb1⟩
    have hB1 := HBl.out.trans (hb1.mono HBl.out.size)
    clear hb1
    go_wp2_with fail
    go_roundg 4
    case measure => have := HK.out; omega
    case rel => exact ⟨1, rfl, by omega, ⟨rfl⟩, ⟨fun _ => hb, fun h => absurd h (by omega), fun h => absurd h (by omega), fun h => absurd h (by omega)⟩, ⟨hB1⟩⟩
  by_cases hi1 : i = 1
  ·
   subst hi1
   have k0 := (cell_of_row _ _ 2 _ _ _ hfw).trans (show formCells[2]? = some (.string ⟨#[60, 33, 91, 67, 68, 65, 84, 65, 91]⟩) from rfl)
   have k1 := (cell_of_row _ _ 3 _ _ _ hfw).trans (show formCells[3]? = some (.func (.func 125) #[] #[]) from rfl)
   clear hfw
   cases hb : Lib.hasPrefix (rs s p) [60, 33, 91, 67, 68, 65, 84, 65, 91] with
   | true =>
    have hC := begins_any g gv s p ov (.func (.func 125) #[] #[]) ⟨#[60, 33, 91, 67, 68, 65, 84, 65, 91]⟩ true wr hRw hvw hp hs ⟨_, rfl⟩ hb
    go_wp2_with fail
    refine hC.mono ?_
    rintro e w1 ⟨rfl, hb1⟩
    have hz : (1 : Int) = Z := by
     rw [← HZ.out]
     unfold formI
     rw [if_neg (by rw [HM.out.1 (by omega)]; simp), if_pos hb]
     rfl
    subst hz
    go_wp2_with fail
    go_ret
    exact ⟨rfl, HBl.out.trans (hb1.mono HBl.out.size)⟩
   | false =>
    have hC := begins_any g gv s p ov (.func (.func 125) #[] #[]) ⟨#[60, 33, 91, 67, 68, 65, 84, 65, 91]⟩ false wr hRw hvw hp hs ⟨_, rfl⟩ hb
    go_wp2_with fail
    refine hC.mono ?_
    rintro e w1 ⟨rfl, hb1⟩
    have hB1 := HBl.out.trans (hb1.mono HBl.out.size)
    clear hb1
    go_wp2_with fail
    go_roundg 3
    case measure => have := HK.out; omega
    case rel => exact ⟨2, rfl, by omega, ⟨rfl⟩, ⟨fun _ => HM.out.1 (by omega), fun _ => hb, fun h => absurd h (by omega), fun h => absurd h (by omega)⟩, ⟨hB1⟩⟩
  by_cases hi2 : i = 2
  ·
   subst hi2
   have k0 := (cell_of_row _ _ 4 _ _ _ hfw).trans (show formCells[4]? = some (.string ⟨#[60, 47]⟩) from rfl)
   have k1 := (cell_of_row _ _ 5 _ _ _ hfw).trans (show formCells[5]? = some (.func (.func 126) #[] #[]) from rfl)
   clear hfw
   cases hb : Lib.hasPrefix (rs s p) [60, 47] with
   | true =>
    have hC := begins_any g gv s p ov (.func (.func 126) #[] #[]) ⟨#[60, 47]⟩ true wr hRw hvw hp hs ⟨_, rfl⟩ hb
    go_wp2_with fail
    refine hC.mono ?_
    rintro e w1 ⟨rfl, hb1⟩
    have hz : (2 : Int) = Z := by
     rw [← HZ.out]
     unfold formI
     rw [if_neg (by rw [HM.out.1 (by omega)]; simp), if_neg (by rw [HM.out.2.1 (by omega)]; simp), if_pos hb]
     rfl
    subst hz
    go_wp2_with fail
    go_ret
    exact ⟨rfl, HBl.out.trans (hb1.mono HBl.out.size)⟩
   | false =>
    have hC := begins_any g gv s p ov (.func (.func 126) #[] #[]) ⟨#[60, 47]⟩ false wr hRw hvw hp hs ⟨_, rfl⟩ hb
    go_wp2_with fail
    refine hC.mono ?_
    rintro e w1 ⟨rfl, hb1⟩
    have hB1 := HBl.out.trans (hb1.mono HBl.out.size)
    clear hb1
    go_wp2_with fail
    go_roundg 2
    case measure => have := HK.out; omega
    case rel => exact ⟨3, rfl, by omega, ⟨rfl⟩, ⟨fun _ => HM.out.1 (by omega), fun _ => HM.out.2.1 (by omega), fun _ => hb, fun h => absurd h (by omega)⟩, ⟨hB1⟩⟩
  by_cases hi3 : i = 3
  ·
   subst hi3
   have k0 := (cell_of_row _ _ 6 _ _ _ hfw).trans (show formCells[6]? = some (.string ⟨#[60]⟩) from rfl)
   have k1 := (cell_of_row _ _ 7 _ _ _ hfw).trans (show formCells[7]? = some (.func (.func 130) #[] #[]) from rfl)
   clear hfw
   cases hb : Lib.hasPrefix (rs s p) [60] with
   | true =>
    have hC := begins_any g gv s p ov (.func (.func 130) #[] #[]) ⟨#[60]⟩ true wr hRw hvw hp hs ⟨_, rfl⟩ hb
    go_wp2_with fail
    refine hC.mono ?_
    rintro e w1 ⟨rfl, hb1⟩
    have hz : (3 : Int) = Z := by
     rw [← HZ.out]
     unfold formI
     rw [if_neg (by rw [HM.out.1 (by omega)]; simp), if_neg (by rw [HM.out.2.1 (by omega)]; simp), if_neg (by rw [HM.out.2.2.1 (by omega)]; simp), if_pos hb]
     rfl
    subst hz
    go_wp2_with fail
    go_ret
    exact ⟨rfl, HBl.out.trans (hb1.mono HBl.out.size)⟩
   | false =>
    have hC := begins_any g gv s p ov (.func (.func 130) #[] #[]) ⟨#[60]⟩ false wr hRw hvw hp hs ⟨_, rfl⟩ hb
    go_wp2_with fail
    refine hC.mono ?_
    rintro e w1 ⟨rfl, hb1⟩
    have hB1 := HBl.out.trans (hb1.mono HBl.out.size)
    clear hb1
    go_wp2_with fail
    go_roundg 1
    case measure => have := HK.out; omega
    case rel => exact ⟨4, rfl, by omega, ⟨rfl⟩, ⟨fun _ => HM.out.1 (by omega), fun _ => HM.out.2.1 (by omega), fun _ => HM.out.2.2.1 (by omega), fun _ => hb⟩, ⟨hB1⟩⟩
  have h4 : i = 4 := by omega
  subst h4
  have hz : (-1 : Int) = Z := by
   rw [← HZ.out]
   unfold formI
   rw [if_neg (by rw [HM.out.1 (by omega)]; simp), if_neg (by rw [HM.out.2.1 (by omega)]; simp), if_neg (by rw [HM.out.2.2.1 (by omega)]; simp), if_neg (by rw [HM.out.2.2.2 (by omega)]; simp)]
   rfl
  subst hz
  go_wp2_with fail
  go_ret
  exact ⟨rfl, HBl.out⟩
end Go.Proofs.YtknfpggiigncpaaGreatDoor.C
