/- token's reader: put: its contract. -/
import Derived.Test.YtknfpggiigncpaaGreatDoorXTok2
import Derived.Deep.RegionLaw
set_option linter.unusedVariables false
set_option linter.unusedSimpArgs false
namespace Go.Proofs.YtknfpggiigncpaaGreatDoor.C
open Go.RowKit P A YtknfpggiigncpaaGreatDoorW.PrintWords YtknfpggiigncpaaGreatDoorW.PrintLast YtknfpggiigncpaaGreatDoorW.PrintMore
theorem info44 : (Tryz.prog.info? 44).map (fun i => (i.zero, i.size, i.bytes)) = some (some (.agg #[(.int .u8 0), (.string ⟨#[]⟩), (.string ⟨#[]⟩), (.slice none 0 0), (.bool false), (.int .i64 0)]), 6, 80) := by kernel_rfl
def putT (xs : List S44) (t : S44) : List S44 := if t.f0 = 3 ∧ t.f2.data.toList = [] then xs else xs ++ [t]
def Own (g : Nat) (ov : Value) (xs : List S44) (w : World) : Prop := Kd.S k44 44 w (g + 1) (fun k => g < k) ov xs
theorem Own.ch {g : Nat} {ov : Value} {xs : List S44} {w w1 : World} (h : Own g ov xs w) (hc : Ch g w w1) : Own g ov xs w1 := Kd.S_keep h hc.2 (fun k hk => Nat.ne_of_gt hk)
theorem keepW {w w1 : World} {g : Nat} (h : KeepBut w w1 g none) (row : Option Nat) : KeepBut w w1 g row := ⟨h.1, fun i hi hg _ => h.2 i hi hg (by simp)⟩
theorem keepT {w w1 w2 : World} {g : Nat} {row : Option Nat} (h : KeepBut w w1 g none) (k : KeepBut w1 w2 g row) : KeepBut w w2 g row := (keepW h row).trans k (.inl rfl)
def PutRes (g : Nat) (s : ByteArray) (p : Nat) (ov : Value) (xs : List S44) (w : World) (e : Ending) (w' : World) : Prop :=
 e = .returned (.tuple #[]) ∧ ∃ ov', Rd g s p ov' w' ∧ Own g ov' xs w' ∧ Below g w w' ∧ KeepBut w w' g ov.ownBlock
set_option maxHeartbeats 4000000 in
set_option maxRecDepth 100000 in
theorem put_any (g : Nat) (s : ByteArray) (p : Nat) (ov va : Value) (xs : List S44) (t : S44) (okv okp : Nat → Prop) (w : World) (h : Rd g s p ov w) (hS : Kd.S k44 44 w (g + 1) okv ov xs) (hT : k77.R 77 w (g + 1) okp va t.f3)
  (hokv : ∀ k, okv k → g < k ∧ ¬ okp k) (hokp : ∀ k, okp k → g < k) (hl : xs.length ≤ 1048576) :
  Calls Tryz.prog 95 #[.pointer (some ⟨g, 0, none⟩), .agg #[.int .u8 t.f0, .string t.f1, .string t.f2, va, .bool t.f4, .int .i64 t.f5]] w (PutRes g s p ov (putT xs t) w) := by
 have hlt := h.lt
 have H := Lib.hid h
 have hne : ∀ k, ov.ownBlock = some k → okv k := by
  obtain ⟨f, hf⟩ := hS
  exact hf.1
 by_cases h3 : t.f0 = 3
 ·
  by_cases h0 : t.f2.data.toList = []
  ·
   have hp : putT xs t = xs := by
    unfold putT
    rw [if_pos ⟨h3, h0⟩]
   rw [hp]
   have g3 : (t.f0 != 3) = false := by simpa using h3
   have g0 : t.f2 = ⟨#[]⟩ := by
    apply ByteArray.ext
    apply Array.toList_inj.1
    exact h0
   have hO : Own g ov xs (w.alloc (.cells #[.int .u8 t.f0, .string t.f1, .string t.f2, va, .bool t.f4, .int .i64 t.f5] 44)) := Kd.S_mono (Kd.S_alloc hS _) (fun k hk => (hokv k hk).1)
   rw [g0] at hO ⊢
   have HO := Lib.hid hO
   clear h3 hp hO g0 h0 hS hT hokv hokp hne h
   go_enter Tryz.func95, Tryz.ntmps95
   go_wp2
   go_end0
   exact ⟨rfl, ov, H.out.below (below_alloc (Below.refl _ _) _), HO.out, ((Below.refl _ _).alloc (by omega) _), KeepBut.of_below (below_alloc (Below.refl _ _) _) _ _⟩
  ·
   have hp : putT xs t = xs ++ [t] := by
    unfold putT
    rw [if_neg (fun h => h0 h.2)]
   rw [hp]
   have g3 : (t.f0 != 3) = false := by simpa using h3
   have g4 : t.f2.toList.isEmpty = false := by
    rw [Lib.toList_data]
    simpa using h0
   clear h3 hp h0
   have c2 := h.at_ 2
   have f2 := h.free 2
   simp at c2
   have HS := Lib.hid hS
   have HT := Lib.hid hT
   have HV := Lib.hid hokv
   have HP := Lib.hid hokp
   have HN := Lib.hid hne
   clear hS hT hokv hokp hne h
   go_enter Tryz.func95, Tryz.ntmps95
   go_wp2
   go_region_law (refine Kd.S_append_step k44 (w0 := w) (W := (w.alloc (.cells #[.int .u8 t.f0, .string t.f1, .string t.f2, va, .bool t.f4, .int .i64 t.f5] 44)).drew) (g + 1) (by rfl) (.tmp 16) (.tmp 18) 34 44 _ 80 (by rfl) Tryz.underlying34 info44 rfl (by decide) (by decide) ov xs t [.int .u8 t.f0, .string t.f1, .string t.f2, va, .bool t.f4, .int .i64 t.f5] (fun k => g < k) okp (by simp [Act.eval, Act.put]) (by simp [Act.eval, Act.put]) (k44_mkM _ _ _ t (Kd.R_below HT.out (by repeat (first | exact Below.refl _ _ | apply below_drew | apply pw_below_drewN | apply below_alloc)))) (fun k hk => ⟨HP.out k hk, fun e => (HV.out k (HN.out k e.symm)).2 hk⟩) (fun k hk => by simp at hk; omega) (Kd.S_mono (Kd.S_below HS.out (by repeat (first | exact Below.refl _ _ | apply below_drew | apply pw_below_drewN | apply below_alloc))) HV.out) (((Below.refl _ _).alloc (by omega) _).drew) (by simp; omega) (by omega) ?_; intro v1 w1 hS1 hb1 hg1 hat1; have hR1 : Rd g s p ov w1 := (hg1.block g (by simp; omega) (fun e => Nat.lt_irrefl g ((HV.out g (HN.out g e.symm)).1))).trans ((Below.heap_alloc _ _ _ hlt).trans H.out); obtain ⟨A1, c1, rfl⟩ := Kd.S_slice hS1; (have hl1 : (xs ++ [t]).length = xs.length + 1 := by simp); rw [hl1] at hS1; clear hl1; have d2 := hR1.at_ 2; have e2 := hR1.free 2; simp at d2; have HS1 := Lib.hid hS1; have HB1 := Lib.hid hb1; have HR1 := Lib.hid hR1; have HK1 := Lib.hid (show KeepBut w w1 g ov.ownBlock from (KeepBut.of_below (((Below.refl _ w).alloc (Nat.le_refl _) _).drew) g _).trans (KeepBut.of_grown hg1 g) (.inl rfl)); clear hS1 hb1 hg1 hat1 hR1)
   all_goals
    go_wp2
    go_end0
    refine ⟨rfl, _, heap_setCell_same _ _ _ _ _ _ HR1.out, ?_, ?_, HK1.out.set_ 2 _⟩
    ·
     exact Kd.S_far (p := ⟨g, 2, none⟩) HS1.out (fun k hk => Nat.ne_of_gt hk) _
    ·
     exact (HB1.out.mono (Nat.le_succ g)).setCell (p := ⟨g, 2, none⟩) (Nat.le_refl _) _
 ·
  have hp : putT xs t = xs ++ [t] := by
   unfold putT
   rw [if_neg (fun h => h3 h.1)]
  rw [hp]
  have g3 : (t.f0 != 3) = true := by simpa using h3
  clear h3 hp
  have c2 := h.at_ 2
  have f2 := h.free 2
  simp at c2
  have HS := Lib.hid hS
  have HT := Lib.hid hT
  have HV := Lib.hid hokv
  have HP := Lib.hid hokp
  have HN := Lib.hid hne
  clear hS hT hokv hokp hne h
  go_enter Tryz.func95, Tryz.ntmps95
  go_wp2
  go_region_law (refine Kd.S_append_step k44 (w0 := w) (W := (w.alloc (.cells #[.int .u8 t.f0, .string t.f1, .string t.f2, va, .bool t.f4, .int .i64 t.f5] 44)).drew) (g + 1) (by rfl) (.tmp 16) (.tmp 18) 34 44 _ 80 (by rfl) Tryz.underlying34 info44 rfl (by decide) (by decide) ov xs t [.int .u8 t.f0, .string t.f1, .string t.f2, va, .bool t.f4, .int .i64 t.f5] (fun k => g < k) okp (by simp [Act.eval, Act.put]) (by simp [Act.eval, Act.put]) (k44_mkM _ _ _ t (Kd.R_below HT.out (by repeat (first | exact Below.refl _ _ | apply below_drew | apply pw_below_drewN | apply below_alloc)))) (fun k hk => ⟨HP.out k hk, fun e => (HV.out k (HN.out k e.symm)).2 hk⟩) (fun k hk => by simp at hk; omega) (Kd.S_mono (Kd.S_below HS.out (by repeat (first | exact Below.refl _ _ | apply below_drew | apply pw_below_drewN | apply below_alloc))) HV.out) (((Below.refl _ _).alloc (by omega) _).drew) (by simp; omega) (by omega) ?_; intro v1 w1 hS1 hb1 hg1 hat1; have hR1 : Rd g s p ov w1 := (hg1.block g (by simp; omega) (fun e => Nat.lt_irrefl g ((HV.out g (HN.out g e.symm)).1))).trans ((Below.heap_alloc _ _ _ hlt).trans H.out); obtain ⟨A1, c1, rfl⟩ := Kd.S_slice hS1; (have hl1 : (xs ++ [t]).length = xs.length + 1 := by simp); rw [hl1] at hS1; clear hl1; have d2 := hR1.at_ 2; have e2 := hR1.free 2; simp at d2; have HS1 := Lib.hid hS1; have HB1 := Lib.hid hb1; have HR1 := Lib.hid hR1; have HK1 := Lib.hid (show KeepBut w w1 g ov.ownBlock from (KeepBut.of_below (((Below.refl _ w).alloc (Nat.le_refl _) _).drew) g _).trans (KeepBut.of_grown hg1 g) (.inl rfl)); clear hS1 hb1 hg1 hat1 hR1)
  all_goals
   go_wp2
   go_end0
   refine ⟨rfl, _, heap_setCell_same _ _ _ _ _ _ HR1.out, ?_, ?_, HK1.out.set_ 2 _⟩
   ·
    exact Kd.S_far (p := ⟨g, 2, none⟩) HS1.out (fun k hk => Nat.ne_of_gt hk) _
   ·
    exact (HB1.out.mono (Nat.le_succ g)).setCell (p := ⟨g, 2, none⟩) (Nat.le_refl _) _
end Go.Proofs.YtknfpggiigncpaaGreatDoor.C
