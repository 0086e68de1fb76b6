/- The document's open: a token that begins with <. -/
import Derived.Test.YtknfpggiigncpaaGreatDoorBx0
import Derived.Test.YtknfpggiigncpaaGreatDoorRt5
import Derived.Test.YtknfpggiigncpaaGreatDoorXTok6
set_option linter.unusedVariables false
set_option linter.unusedSimpArgs false
namespace Go.Proofs.YtknfpggiigncpaaGreatDoor.C
open Go.RowKit P B YtknfpggiigncpaaGreatDoorW.PrintWords YtknfpggiigncpaaGreatDoorW.PrintLast YtknfpggiigncpaaGreatDoorW.PrintMore
def openT (s : ByteArray) (p : Nat) : Except (Nat × Int) (S44 × Nat) :=
 match nameT s p with
 | .error x => .error x
 | .ok (a, q) =>
  match attrsT s (s.size + 1 - q) q [] with
  | .error x => .error x
  | .ok (l, q2) =>
   match mustT s (selfN s q2) [62] with
   | .error x => .error x
   | .ok q4 => .ok (⟨1, ⟨a.toArray⟩, ⟨#[]⟩, l, Lib.hasPrefix (rs s q2) [47, 62], ((p - 1 : Nat) : Int)⟩, q4)
theorem form4_open (s : ByteArray) (p : Nat) (xs : List S44) : form4T s p xs = match openT s p with | .error x => .error x | .ok (t, q) => .ok (q, putT xs t) := by
 unfold form4T openT
 cases nameT s p with
 | error x => rfl
 | ok y =>
  obtain ⟨a, q⟩ := y
  dsimp only
  cases attrsT s (s.size + 1 - q) q [] with
  | error x => rfl
  | ok y =>
   obtain ⟨l, q2⟩ := y
   dsimp only
   cases mustT s (selfN s q2) [62] with
   | error x => rfl
   | ok y => rfl
def OpenRes (w : World) (r : Except (Nat × Int) (S44 × Nat)) (e : Ending) (w' : World) : Prop :=
 match r with
 | .ok (t, q) => ∃ v, e = .returned (.tuple #[.agg #[.int .u8 t.f0, .string t.f1, .string t.f2, v, .bool t.f4, .int .i64 t.f5], .int .i64 q, .int .i64 0]) ∧ k92.R 92 w' w.heap.size (fun _ => True) v (t.f3.map tr77) ∧ Below w.heap.size w w'
 | .error (a, er) => e = .returned (.tuple #[.agg #[.int .u8 0, .string ⟨#[]⟩, .string ⟨#[]⟩, .slice none 0 0, .bool false, .int .i64 0], .int .i64 a, .int .i64 er]) ∧ Below w.heap.size w w'
def Bx88 (g : Nat) (v0 v1 v2 v3 v4 v5 : Value) (w : World) : Prop := w.heap[g]? = some (.cells #[v0, v1, v2, v3, v4, v5] 88 (0, 0))
theorem Bx88.set6 {g : Nat} {u0 u1 u2 u3 u4 u5 : Value} {w : World} (h : Bx88 g u0 u1 u2 u3 u4 u5 w) (v0 v1 v2 v3 v4 v5 : Value) :
  Bx88 g v0 v1 v2 v3 v4 v5 ((((((w.setCell ⟨g, 0, none⟩ v0).setCell ⟨g, 1, none⟩ v1).setCell ⟨g, 2, none⟩ v2).setCell ⟨g, 3, none⟩ v3).setCell ⟨g, 4, none⟩ v4).setCell ⟨g, 5, none⟩ v5) :=
 heap_setCell_same _ _ 5 _ _ v5 (heap_setCell_same _ _ 4 _ _ v4 (heap_setCell_same _ _ 3 _ _ v3 (heap_setCell_same _ _ 2 _ _ v2 (heap_setCell_same _ _ 1 _ _ v1 (heap_setCell_same _ _ 0 _ _ v0 h)))))
theorem Bx88.drewN {g : Nat} {u0 u1 u2 u3 u4 u5 : Value} {w : World} (h : Bx88 g u0 u1 u2 u3 u4 u5 w) (n : Nat) : Bx88 g u0 u1 u2 u3 u4 u5 (w.drewN n) := h
theorem Bx88.new (w : World) (u0 u1 u2 u3 u4 u5 : Value) : Bx88 w.heap.size u0 u1 u2 u3 u4 u5 (w.alloc (.cells #[u0, u1, u2, u3, u4, u5] 88)) := cells_alloc _ _ _
theorem Bx88.at_ {g : Nat} {u0 u1 u2 u3 u4 u5 : Value} {w : World} (h : Bx88 g u0 u1 u2 u3 u4 u5 w) (i : Nat) : w.cell? ⟨g, i, none⟩ = #[u0, u1, u2, u3, u4, u5][i]? := cell_of_row _ _ _ _ _ _ h
theorem Bx88.far {g b j : Nat} {u0 u1 u2 u3 u4 u5 : Value} {w : World} (h : Bx88 g u0 u1 u2 u3 u4 u5 w) (hb : b ≠ g) (v : Value) : Bx88 g u0 u1 u2 u3 u4 u5 (w.setCell ⟨b, j, none⟩ v) := (Below.heap_setCell w ⟨b, j, none⟩ v g (Ne.symm hb)).trans h
theorem R_box {n b j m : Nat} {w : World} {v : Value} {ys : List S92} (h : k92.R 92 w n (fun k => m < k) v ys) (hb : b ≤ m) (u : Value) : k92.R 92 (w.setCell ⟨b, j, none⟩ u) n (fun k => m < k) v ys := Kd.R_far h (fun k hk => by show k ≠ b; omega) u
theorem R_six {n b m : Nat} {w : World} {v : Value} {ys : List S92} (h : k92.R 92 w n (fun k => m < k) v ys) (hb : b ≤ m) (v0 v1 v2 v3 v4 v5 : Value) :
  k92.R 92 ((((((w.setCell ⟨b, 0, none⟩ v0).setCell ⟨b, 1, none⟩ v1).setCell ⟨b, 2, none⟩ v2).setCell ⟨b, 3, none⟩ v3).setCell ⟨b, 4, none⟩ v4).setCell ⟨b, 5, none⟩ v5) n (fun k => m < k) v ys :=
 R_box (R_box (R_box (R_box (R_box (R_box h hb _) hb _) hb _) hb _) hb _) hb _
theorem results60 {g : Nat} {v0 v1 v2 v3 v4 v5 k er : Value} {w : World} (h : Bx88 g v0 v1 v2 v3 v4 v5 w) (tmps : Array Value) (h4 : tmps.getD 4 undef = .pointer (some ⟨g, 0, none⟩)) (h5 : tmps.getD 5 undef = k) (h6 : tmps.getD 6 undef = er) :
  (results Tryz.f60 tmps).run Tryz.prog w = .ok (.tuple #[.agg #[v0, v1, v2, v3, v4, v5], k, er]) w := by
 have k0 : w.cell? ⟨g, 0, none⟩ = some v0 := h.at_ 0
 have k1 : w.cell? ⟨g, 1, none⟩ = some v1 := h.at_ 1
 have k2 : w.cell? ⟨g, 2, none⟩ = some v2 := h.at_ 2
 have k3 : w.cell? ⟨g, 3, none⟩ = some v3 := h.at_ 3
 have k4 : w.cell? ⟨g, 4, none⟩ = some v4 := h.at_ 4
 have k5 : w.cell? ⟨g, 5, none⟩ = some v5 := h.at_ 5
 rw [Array.getD_eq_getD_getElem?] at h4 h5 h6
 simp [results, Tryz.results60, go_sem, h4, h5, h6, k0, k1, k2, k3, k4, k5]
theorem below_set6 {w W : World} {n g : Nat} (h : Below n w W) (hg : n ≤ g) (v0 v1 v2 v3 v4 v5 : Value) :
  Below n w ((((((W.setCell ⟨g, 0, none⟩ v0).setCell ⟨g, 1, none⟩ v1).setCell ⟨g, 2, none⟩ v2).setCell ⟨g, 3, none⟩ v3).setCell ⟨g, 4, none⟩ v4).setCell ⟨g, 5, none⟩ v5) :=
 (((((h.setCell (p := ⟨g, 0, none⟩) hg _).setCell (p := ⟨g, 1, none⟩) hg _).setCell (p := ⟨g, 2, none⟩) hg _).setCell (p := ⟨g, 3, none⟩) hg _).setCell (p := ⟨g, 4, none⟩) hg _).setCell (p := ⟨g, 5, none⟩) hg _
set_option maxHeartbeats 8000000 in
set_option maxRecDepth 100000 in
theorem rOpen (s : ByteArray) (i : Nat) (w : World) (hi : i < s.size) (hs : s.size ≤ 3000) : Calls Tryz.prog 60 #[.string s, .int .i64 i] w (OpenRes w (openT s (i + 1))) := by
 have hN : nmEnd s (i + 1) ≤ s.size := by
  unfold nmEnd
  have := nmLen_le (rs s (i + 1))
  rw [rs_len] at this
  split <;> omega
 have hn0 := fun w => rName s (i + 1) w (by omega) (by omega)
 rw [show ((i + 1 : Nat) : Int) = (i : Int) + 1 by omega] at hn0
 obtain ⟨R, hR⟩ : ∃ R, openT s (i + 1) = R := ⟨_, rfl⟩
 rw [hR]
 go_enter Tryz.func60, Tryz.ntmps60
 go_wp2_with fail
 refine (hn0 _).mono ?_
 rintro e w1 ⟨rfl, n1, rfl⟩
 by_cases hbad : nmLen (rs s (i + 1)) = 0 ∨ 100 < nmLen (rs s (i + 1))
 ·
  have hk : nmEnd s (i + 1) = i + 1 := by
   unfold nmEnd
   rcases hbad with h | h
   ·
    rw [h]; rfl
   ·
    rw [if_pos h]
  have hT : openT s (i + 1) = .error (i + 1, 21) := by
   unfold openT nameT
   rw [if_pos hbad]
  rw [hk]
  obtain rfl := hT.symm.trans hR
  clear hbad hT hR
  go_wp2_with fail
  refine bodyPost_ret (results60 (((Bx88.new w _ _ _ _ _ _).drewN n1).set6 _ _ _ _ _ _) _ rfl rfl rfl) rfl ?_
  exact ⟨by simp, below_set6 (pw_below_drewN (below_alloc (Below.refl _ _) _) _) (Nat.le_refl _) _ _ _ _ _ _⟩
 ·
  obtain ⟨hb1, hb2⟩ := not_or.1 hbad
  have hk : nmEnd s (i + 1) = i + 1 + nmLen (rs s (i + 1)) := by
   unfold nmEnd
   rw [if_neg hb2]
  obtain ⟨nm, q, hnm, hnq⟩ : ∃ (nm : ByteArray) (q : Nat), nameT s (i + 1) = .ok (nm.data.toList, q) ∧ nmEnd s (i + 1) = q := by
   refine ⟨⟨((rs s (i + 1)).take (nmLen (rs s (i + 1)))).toArray⟩, _, ?_, rfl⟩
   unfold nameT
   rw [if_neg hbad, hk]
  have hqi : i + 1 < q := by omega
  have hz : (((q : Int)) == (i : Int) + 1) = false := beq_eq_false_iff_ne.2 (by omega)
  have hnmx : nm = s.extract (i + 1) q := by
   unfold nameT at hnm
   rw [if_neg hbad] at hnm
   injection hnm with h
   injection h with h1 h2
   apply ba_ext
   rw [← h1, ext_list, show q - (i + 1) = nmLen (rs s (i + 1)) by omega]
   rfl
  have hsl : ∀ w : World, (Instr.slice 9 (.string s) (some (.int .i64 ((i : Int) + 1))) (some (.int .i64 (q : Int))) none).run Tryz.prog w = .ok (.string nm) w := fun w => by
   rw [hnmx]
   exact slice_two s ((i : Int) + 1) (q : Int) (i + 1) q (by omega) rfl (by omega) (by omega) w
  rw [hnq] at hN ⊢
  clear hbad hb1 hb2 hk hnq hnmx hn0
  have HR := Lib.hid hR
  have HNM := Lib.hid hnm
  clear hR hnm
  obtain ⟨RA, hRA⟩ : ∃ RA, attrsT s (s.size + 1 - q) q [] = RA := ⟨_, rfl⟩
  have HRA := Lib.hid hRA
  clear hRA
  have hbx1 := (Bx88.new w (.int .u8 0) (.string ⟨#[]⟩) (.string ⟨#[]⟩) (.slice none 0 0) (.bool false) (.int .i64 0)).drewN n1
  have hlt1 : w.heap.size < ((w.alloc (.cells #[.int .u8 0, .string ⟨#[]⟩, .string ⟨#[]⟩, .slice none 0 0, .bool false, .int .i64 0] 88)).drewN n1).heap.size := by simp
  have hbx3 : Bx88 w.heap.size (.int .u8 0) (.string ⟨#[]⟩) (.string ⟨#[]⟩) (.slice none 0 0) (.bool false) (.int .i64 0) (((w.alloc (.cells #[.int .u8 0, .string ⟨#[]⟩, .string ⟨#[]⟩, .slice none 0 0, .bool false, .int .i64 0] 88)).drewN n1).alloc (.cells #[.int .u8 1, .string nm, .string ⟨#[]⟩, .slice none 0 0, .bool false, .int .i64 i] 88)) := (Below.heap_alloc _ _ _ hlt1).trans hbx1
  have hbx2 : Bx88 (w.heap.size + 1) (.int .u8 1) (.string nm) (.string ⟨#[]⟩) (.slice none 0 0) (.bool false) (.int .i64 i) (((w.alloc (.cells #[.int .u8 0, .string ⟨#[]⟩, .string ⟨#[]⟩, .slice none 0 0, .bool false, .int .i64 0] 88)).drewN n1).alloc (.cells #[.int .u8 1, .string nm, .string ⟨#[]⟩, .slice none 0 0, .bool false, .int .i64 i] 88)) := by
   have := Bx88.new ((w.alloc (.cells #[.int .u8 0, .string ⟨#[]⟩, .string ⟨#[]⟩, .slice none 0 0, .bool false, .int .i64 0] 88)).drewN n1) (.int .u8 1) (.string nm) (.string ⟨#[]⟩) (.slice none 0 0) (.bool false) (.int .i64 i)
   rw [show ((w.alloc (.cells #[.int .u8 0, .string ⟨#[]⟩, .string ⟨#[]⟩, .slice none 0 0, .bool false, .int .i64 0] 88)).drewN n1).heap.size = w.heap.size + 1 by simp] at this
   exact this
  have HX1 := Lib.hid hbx3
  have HX2 := Lib.hid hbx2
  clear hbx1 hbx2 hbx3 hlt1
  go_wp2_with fail
  go_loopg [7] (s.size + 1 - q) (fun kq v7 wr => ∃ (k : Nat) (acc : List S77) (v3 : Value), v7 = .int .i64 k ∧ Aside0 (q ≤ k ∧ k ≤ s.size) ∧ Aside0 (s.size < k + kq) ∧ Aside0 (acc.length ≤ k) ∧ Aside0 (attrsT s kq k acc = RA)
   ∧ Aside0 (Bx88 w.heap.size (.int .u8 0) (.string ⟨#[]⟩) (.string ⟨#[]⟩) (.slice none 0 0) (.bool false) (.int .i64 0) wr) ∧ Aside0 (Bx88 (w.heap.size + 1) (.int .u8 1) (.string nm) (.string ⟨#[]⟩) v3 (.bool false) (.int .i64 i) wr)
   ∧ Aside0 (Below w.heap.size w wr) ∧ Aside0 (k92.R 92 wr w.heap.size (fun k => w.heap.size + 1 < k) v3 (acc.map tr77)))
  case atStart => exact ⟨q, [], _, rfl, ⟨Nat.le_refl _, hN⟩, ⟨by omega⟩, ⟨Nat.zero_le _⟩, ⟨HRA.out⟩, ⟨HX1.out⟩, ⟨HX2.out⟩, ⟨below_alloc (pw_below_drewN (below_alloc (Below.refl _ _) _) _) _⟩, ⟨Kd.R_nil _ _ _ _ _⟩⟩
  case round =>
   clear HX1 HX2
   obtain ⟨k, acc, v3, rfl, HK, HF, HL, HT, HX1, HX2, HB, HA⟩ := hrel
   cases gk with
   | zero => exact absurd HF.out (by have := HK.out; omega)
   | succ kk =>
    obtain ⟨A, cap, hv3⟩ := Kd.R_slice HA.out
    rw [List.length_map] at hv3
    subst hv3
    have hks := HK.out.2
    have hbl := blankN_le (rs s k)
    rw [rs_len] at hbl
    have hsk := fun w => rSkip s k w (by omega) (by omega)
    have hT := HT.out
    simp only [attrsT] at hT
    unfold p3T at hT
    generalize hn : blankN (rs s k) = n at hT hbl hsk
    obtain ⟨p, hp⟩ : ∃ p, k + n = p := ⟨_, rfl⟩
    rw [hp] at hT hsk
    have x0 : wr.cell? ⟨w.heap.size + 1, 0, none⟩ = some (.int .u8 1) := HX2.out.at_ 0
    have x1 : wr.cell? ⟨w.heap.size + 1, 1, none⟩ = some (.string nm) := HX2.out.at_ 1
    have x2 : wr.cell? ⟨w.heap.size + 1, 2, none⟩ = some (.string ⟨#[]⟩) := HX2.out.at_ 2
    have x3 : wr.cell? ⟨w.heap.size + 1, 3, none⟩ = some (.slice A acc.length cap) := HX2.out.at_ 3
    have x4 : wr.cell? ⟨w.heap.size + 1, 4, none⟩ = some (.bool false) := HX2.out.at_ 4
    have x5 : wr.cell? ⟨w.heap.size + 1, 5, none⟩ = some (.int .i64 i) := HX2.out.at_ 5
    have z0 : wr.cell? ⟨w.heap.size, 0, none⟩ = some (.int .u8 0) := HX1.out.at_ 0
    have z1 : wr.cell? ⟨w.heap.size, 1, none⟩ = some (.string ⟨#[]⟩) := HX1.out.at_ 1
    have z2 : wr.cell? ⟨w.heap.size, 2, none⟩ = some (.string ⟨#[]⟩) := HX1.out.at_ 2
    have z3 : wr.cell? ⟨w.heap.size, 3, none⟩ = some (.slice none 0 0) := HX1.out.at_ 3
    have z4 : wr.cell? ⟨w.heap.size, 4, none⟩ = some (.bool false) := HX1.out.at_ 4
    have z5 : wr.cell? ⟨w.heap.size, 5, none⟩ = some (.int .i64 0) := HX1.out.at_ 5
    have fx := fun j => frozen_of_row _ (w.heap.size + 1) j _ _ HX2.out
    have fz := fun j => frozen_of_row _ w.heap.size j _ _ HX1.out
    by_cases hgo : 0 < n ∧ ∃ h : p < s.size, isLet (s[p]'h) = true
    ·
     obtain ⟨hn0, hps, hL⟩ := hgo
     have hT2 : (match attr1T s p acc with | .error x => Except.error x | .ok (a, p7) => attrsT s kk p7 (acc ++ [a])) = RA := by
      rw [← hT, if_pos (by rw [decide_eq_true hn0, head_at s p hps, hL]; rfl)]
      rfl
     have hErr : ∀ z, attr1T s p acc = .error z → R = .error z := by
      intro z hz
      rw [hz] at hT2
      rw [← HR.out]
      unfold openT
      rw [HNM.out]
      dsimp only
      rw [HRA.out, ← hT2]
     clear hT HT
     have g1 : ((p : Int) == (k : Int)) = false := beq_eq_false_iff_ne.2 (by omega)
     have g2 : decide ((s.size : Int) ≤ (p : Int)) = false := decide_eq_false (by omega)
     have hnmS := fun w => rName s p w (by omega) (by omega)
     go_wp2_with fail
     refine (hsk _).mono ?_
     rintro e w3 ⟨rfl, n3, rfl⟩
     go_wp2_with fail
     refine (rLet _ true hL _).mono ?_
     rintro e w3 ⟨rfl, n6, rfl⟩
     go_wp2_with fail
     refine (hnmS _).mono ?_
     rintro e w3 ⟨rfl, n7, rfl⟩
     rcases name_cases s p (by omega) with ⟨hnE, hnP⟩ | ⟨hnP, hnS, hnO⟩
     ·
      rw [hnP]
      obtain rfl := hErr _ (a_e1 hnE)
      clear hErr
      go_wp2_with fail
      refine bodyPost_ret (results60 (Bx88.set6 (HX1.out.drewN _) _ _ _ _ _ _) _ rfl rfl rfl) rfl ?_
      exact ⟨by first | rfl | simp | (simp; omega), below_set6 (pw_below_drewN HB.out _) (Nat.le_refl _) _ _ _ _ _ _⟩
     ·
      obtain ⟨m, hm⟩ : ∃ m, nmEnd s p = m := ⟨_, rfl⟩
      rw [hm] at hnP hnS hnO ⊢
      have g3 : ((m : Int) == (p : Int)) = false := beq_eq_false_iff_ne.2 (by omega)
      have hsk2 := fun w => rSkip s m w (by omega) (by omega)
      rw [show m + blankN (rs s m) = p3T s m from rfl] at hsk2
      have hv1 : m ≤ p3T s m ∧ p3T s m ≤ s.size := by
       have := blankN_le (rs s m)
       rw [rs_len] at this
       unfold p3T
       omega
      obtain ⟨v, hv⟩ : ∃ v, p3T s m = v := ⟨_, rfl⟩
      rw [hv] at hsk2 hv1
      clear hm hnmS
      go_wp2_with fail
      refine (hsk2 _).mono ?_
      rintro e w3 ⟨rfl, n8, rfl⟩
      clear hsk2
      go_wp2_with fail
      have hat := fun w => rAt s ⟨#[61]⟩ v (Lib.hasPrefix (rs s v) [61]) rfl w (by omega) (by omega) (by decide) (by decide)
      cases hEq : Lib.hasPrefix (rs s v) [61] with
      | false =>
       obtain rfl := hErr _ (a_e2 hnO (z := (v, 21)) (by rw [hv]; unfold mustT; rw [if_neg (by rw [hEq]; simp)]))
       rw [hEq] at hat
       clear hErr hEq
       refine (hat _).mono ?_
       rintro e w3 ⟨rfl, n9, rfl⟩
       go_wp2_with fail
       refine bodyPost_ret (results60 (Bx88.set6 (HX1.out.drewN _) _ _ _ _ _ _) _ rfl rfl rfl) rfl ?_
       exact ⟨by first | rfl | simp | (simp; omega), below_set6 (pw_below_drewN HB.out _) (Nat.le_refl _) _ _ _ _ _ _⟩
      | true =>
       have hM : mustT s (p3T s m) [61] = .ok (v + 1) := by rw [hv]; unfold mustT; rw [if_pos hEq]; rfl
       have hv2 : v + 1 ≤ s.size := by
        have := Lib.hasPrefix_le hEq
        rw [rs_len] at this
        simp at this
        omega
       rw [hEq] at hat
       clear hEq
       refine (hat _).mono ?_
       rintro e w3 ⟨rfl, n9, rfl⟩
       clear hat
       have hsk3 := fun w => rSkip s (v + 1) w (by omega) (by omega)
       rw [show v + 1 + blankN (rs s (v + 1)) = p3T s (v + 1) from rfl] at hsk3
       have hu1 : v + 1 ≤ p3T s (v + 1) ∧ p3T s (v + 1) ≤ s.size := by
        have := blankN_le (rs s (v + 1))
        rw [rs_len] at this
        unfold p3T
        omega
       obtain ⟨u, hu⟩ : ∃ u, p3T s (v + 1) = u := ⟨_, rfl⟩
       rw [hu] at hsk3 hu1
       rw [show ((v + 1 : Nat) : Int) = (v : Int) + 1 by omega] at hsk3
       go_wp2_with fail
       refine (hsk3 _).mono ?_
       rintro e w3 ⟨rfl, n10, rfl⟩
       clear hsk3
       go_wp2_with fail
       have hat1 := fun w => rAt s ⟨#[39]⟩ u (Lib.hasPrefix (rs s u) [39]) rfl w (by omega) (by omega) (by decide) (by decide)
       have hat2 := fun w => rAt s ⟨#[34]⟩ u (Lib.hasPrefix (rs s u) [34]) rfl w (by omega) (by omega) (by decide) (by decide)
       cases h39 : Lib.hasPrefix (rs s u) [39] with
       | false =>
        cases h34 : Lib.hasPrefix (rs s u) [34] with
        | false =>
         obtain rfl := hErr (u, 21) (by rw [← hu]; exact a_e3 hnO hM (by rw [hu]; exact (quote_bad s u).2 ⟨h39, h34⟩))
         rw [h39] at hat1
         rw [h34] at hat2
         clear hErr h39 h34
         refine (hat1 _).mono ?_
         rintro e w3 ⟨rfl, n11, rfl⟩
         go_wp2_with fail
         refine (hat2 _).mono ?_
         rintro e w3 ⟨rfl, n12, rfl⟩
         go_wp2_with fail
         refine bodyPost_ret (results60 (Bx88.set6 (HX1.out.drewN _) _ _ _ _ _ _) _ rfl rfl rfl) rfl ?_
         exact ⟨by first | rfl | simp | (simp; omega), below_set6 (pw_below_drewN HB.out _) (Nat.le_refl _) _ _ _ _ _ _⟩
        | true =>
         rw [h39] at hat1
         rw [h34] at hat2
         refine (hat1 _).mono ?_
         rintro e w3 ⟨rfl, n11, rfl⟩
         go_wp2_with fail
         refine (hat2 _).mono ?_
         rintro e w3 ⟨rfl, n12, rfl⟩
         have hbq : ¬ badQ ((rs s (p3T s (v + 1))).take 1) := by
          rw [hu]
          intro h
          exact absurd ((quote_bad s u).1 h).2 (by rw [h34]; simp)
         obtain ⟨hus, huc⟩ := head_one s u 34 h34
         clear h39 h34 hat1 hat2
         have hsq : ∀ w : World, (Instr.slice 9 (.string s) (some (.int .i64 (u : Int))) (some (.int .i64 ((u : Int) + 1))) none).run Tryz.prog w = .ok (.string ⟨#[34]⟩) w := fun w => by
          rw [← huc.1]
          exact slice_two s (u : Int) ((u : Int) + 1) u (u + 1) rfl (by omega) (by omega) (by omega) w
         have hfd := fun w => rFind s ⟨#[34]⟩ (u + 1) _ rfl w (by omega) (by omega) (by decide) (by decide)
         rw [show ((u + 1 : Nat) : Int) = (u : Int) + 1 by omega] at hfd
         go_wp2_with fail
         refine (hfd _).mono ?_
         rintro e w3 ⟨rfl, n13, rfl⟩
         clear hfd
         rcases until_find s (u + 1) [34] (by omega) with ⟨hf1, hf2⟩ | ⟨e, hf1, hue, hes, hf2⟩
         ·
          obtain rfl := hErr _ (a_e4 (z := (u + 1, 21)) hnO hM hbq (by rw [hu, huc.2]; exact hf2))
          rw [hf1]
          clear hErr hf1 hf2
          go_wp2_with fail
          refine bodyPost_ret (results60 (Bx88.set6 (HX1.out.drewN _) _ _ _ _ _ _) _ rfl rfl rfl) rfl ?_
          exact ⟨by first | rfl | simp | (simp; omega), below_set6 (pw_below_drewN HB.out _) (Nat.le_refl _) _ _ _ _ _ _⟩
         ·
          rw [hf1]
          have g4 : decide ((e : Int) < 0) = false := decide_eq_false (by omega)
          have hU : untilT s (p3T s (v + 1) + 1) ((rs s (p3T s (v + 1))).take 1) = .ok ((s.extract (u + 1) e).data.toList, e + 1) := by rw [hu, huc.2]; exact hf2
          have hsr : ∀ w : World, (Instr.slice 9 (.string s) (some (.int .i64 ((u : Int) + 1))) (some (.int .i64 (e : Int))) none).run Tryz.prog w = .ok (.string (s.extract (u + 1) e)) w := fun w => slice_two s ((u : Int) + 1) (e : Int) (u + 1) e (by omega) rfl hue (by simp at hes; omega) w
          clear hf1 hf2
          have hlt := fun w => rFind (s.extract (u + 1) e) ⟨#[60]⟩ 0 _ rfl w (by omega) (by simp; omega) (by decide) (by decide)
          have hC := (Kd.R_reads' HA.out).2.2
          rw [List.length_map] at hC
          have HC := Lib.hid hC
          have hsn : ∀ w : World, (Instr.slice 9 (.string s) (some (.int .i64 (p : Int))) (some (.int .i64 (m : Int))) none).run Tryz.prog w = .ok (.string (s.extract p m)) w := fun w => slice_two s (p : Int) (m : Int) p m rfl rfl (by omega) (by omega) w
          obtain ⟨B, hB⟩ : ∃ B, badV (s.extract (u + 1) e).data.toList acc (s.extract p m).data.toList = B := ⟨_, rfl⟩
          obtain ⟨tw, htw⟩ : ∃ tw, decide (0 ≤ findZ (s.extract (u + 1) e) 0 [60]) = tw := ⟨_, rfl⟩
          have hB2 : (tw || acc.length == 20 || hasName acc (s.extract p m)) = B := by
           rw [← hB, ← htw, ← find_contains]
           rfl
          clear hC
          have hal : acc.length ≤ 3000 := by have := HL.out; omega
          obtain ⟨C20, h20⟩ : ∃ C20, (acc.length == 20) = C20 := ⟨_, rfl⟩
          have h20b : ((acc.length : Int) == 20) = C20 := by
           rw [← h20, Bool.eq_iff_iff, beq_iff_eq, beq_iff_eq]
           omega
          rw [h20] at hB2
          clear h20
          have hBx : ∃ tw2, tw2 = (C20 || tw) ∧ Aside0 ((tw2 || hasName acc (s.extract p m)) = B) := ⟨_, rfl, ⟨by rw [← hB2]; cases C20 <;> cases tw <;> rfl⟩⟩
          obtain ⟨tw2, htw2, hB3⟩ := hBx
          clear hB2
          have HBB := Lib.hid hB
          clear hB
          cases C20 with
          | true =>
           obtain rfl : tw2 = true := htw2
           clear hlt htw
           go_wp2_with fail
           go_loopg [14, 15] (acc.length + 1) (fun kq v14 v15 wr2 => ∃ (b : Bool) (j : Nat), v14 = .bool b ∧ v15 = .int .i64 j ∧ Aside0 (j ≤ acc.length ∧ kq + j = acc.length + 1) ∧ Aside0 ((b || hasName (acc.drop j) (s.extract p m)) = B) ∧ Drawn0 wr wr2)
           case atStart => exact ⟨true, 0, rfl, rfl, ⟨Nat.zero_le _, by omega⟩, hB3, dr0⟩
           case round =>
            obtain ⟨b, j, rfl, rfl, HJ, HBb, ⟨nn, rfl⟩⟩ := hrel
            have hj0 := HJ.out.1
            by_cases hj : j < acc.length
            ·
             obtain ⟨ae, ea, ha0, ha1⟩ := at_T92 HC.out (j : Int) (by omega) (by omega)
             cases ea
             rw [rd_map77 _ j hj] at ha0
             simp only [tr77, Int.toNat_natCast] at ha0
             have hdr : hasName (acc.drop j) (s.extract p m) = (((rd_T77 acc (j : Int)).f0.toList == (s.extract p m).toList) || hasName (acc.drop (j + 1)) (s.extract p m)) := by
              rw [List.drop_eq_getElem_cons hj]
              have : rd_T77 acc (j : Int) = acc[j] := by unfold rd_T77; simp [List.getD_eq_getElem?_getD, hj]
              rw [this]
              rfl
             generalize rd_T77 acc (j : Int) = y at ha0 hdr
             clear ha1
             obtain ⟨c, hc⟩ : ∃ c, (y.f0.toList == (s.extract p m).toList) = c := ⟨_, rfl⟩
             have HB4 : Aside0 (((b || c) || hasName (acc.drop (j + 1)) (s.extract p m)) = B) := ⟨by rw [← HBb.out, hdr, hc, Bool.or_assoc]⟩
             clear hdr HBb
             cases b with
             | true =>
              go_wp2_with fail
              refine wp_region_quiet_lit (by kernel_rfl) (by kernel_rfl) ?_
              repeat (go_big_quiet_step (fail))
              refine wpQuiet_nil ?_
              intro _ h
              obtain ⟨nq, h'⟩ := h
              subst h'
              go_wp2_with fail
              go_roundg (acc.length - j)
              case measure => have := HJ.out.2; omega
              case rel => exact ⟨true, j + 1, by go_num, by go_num, ⟨by omega, by omega⟩, ⟨by rw [← HB4.out]; rfl⟩, dr0⟩
             | false =>
              go_wp2_with fail
              refine wp_region_quiet_lit (by kernel_rfl) (by kernel_rfl) ?_
              repeat (go_big_quiet_step (fail))
              refine wpQuiet_nil ?_
              intro _ h
              obtain ⟨nq, h'⟩ := h
              subst h'
              go_wp2_with fail
              go_roundg (acc.length - j)
              case measure => have := HJ.out.2; omega
              case rel => exact ⟨c, j + 1, by go_num, by go_num, ⟨by omega, by omega⟩, ⟨by rw [← HB4.out]; rfl⟩, dr0⟩
            ·
             have hBe : B = b := by
              rw [← HBb.out, List.drop_of_length_le (by omega)]
              cases b <;> rfl
             clear HBb
             cases b with
             | true =>
              obtain rfl := hErr _ (a_e5 hnO hM hbq hU (HBB.out.trans hBe))
              clear hErr
              go_wp2_with fail
              refine bodyPost_ret (results60 (Bx88.set6 (HX1.out.drewN _) _ _ _ _ _ _) _ rfl rfl rfl) rfl ?_
              exact ⟨by first | rfl | simp | (simp; omega), below_set6 (pw_below_drewN HB.out _) (Nat.le_refl _) _ _ _ _ _ _⟩
             | false =>
              have hun := fun w => rUnesc (s.extract (u + 1) e) (by simp; omega) w
              obtain ⟨xo, hxo⟩ : ∃ xo, (un (s.extract (u + 1) e).data.toList 0 []).1 = xo := ⟨_, rfl⟩
              obtain ⟨pl, hpl⟩ : ∃ pl, (un (s.extract (u + 1) e).data.toList 0 []).2.1 = pl := ⟨_, rfl⟩
              obtain ⟨er, her⟩ : ∃ er, (un (s.extract (u + 1) e).data.toList 0 []).2.2 = er := ⟨_, rfl⟩
              simp only [hxo, hpl, her] at hun
              go_wp2_with fail
              refine (hun _).mono ?_
              rintro e2 w4 ⟨rfl, hb4⟩
              clear hun
              have hsz : wr.heap.size ≤ w4.heap.size := by have := hb4.size; simp at this; exact this
              have HX1n : Aside0 (Bx88 w.heap.size (.int .u8 0) (.string ⟨#[]⟩) (.string ⟨#[]⟩) (.slice none 0 0) (.bool false) (.int .i64 0) w4) := ⟨(hb4.block _ (World.block_lt_of_cell? wr _ z0)).trans HX1.out⟩
              have HX2n : Aside0 (Bx88 (w.heap.size + 1) (.int .u8 1) (.string nm) (.string ⟨#[]⟩) (.slice A acc.length cap) (.bool false) (.int .i64 i) w4) := ⟨(hb4.block _ (World.block_lt_of_cell? wr _ x0)).trans HX2.out⟩
              have HBn : Aside0 (Below w.heap.size w w4) := ⟨(pw_below_drewN HB.out nn).trans (hb4.mono (by simp; exact HB.out.size))⟩
              have HAn : Aside0 (k92.R 92 w4 w.heap.size (fun k => w.heap.size + 1 < k) (.slice A acc.length cap) (acc.map tr77)) := ⟨Kd.R_mono (Kd.R_old (Kd.R_drewN HA.out nn) hb4) (fun _ h => h.1)⟩
              clear x0 x1 x2 x3 x4 x5 z0 z1 z2 z3 z4 z5 fx fz
              have x0 := HX2n.out.at_ 0
              have x1 := HX2n.out.at_ 1
              have x2 := HX2n.out.at_ 2
              have x3 := HX2n.out.at_ 3
              have x4 := HX2n.out.at_ 4
              have x5 := HX2n.out.at_ 5
              have z0 := HX1n.out.at_ 0
              have z1 := HX1n.out.at_ 1
              have z2 := HX1n.out.at_ 2
              have z3 := HX1n.out.at_ 3
              have z4 := HX1n.out.at_ 4
              have z5 := HX1n.out.at_ 5
              have fx := fun j => frozen_of_row _ (w.heap.size + 1) j _ _ HX2n.out
              have fz := fun j => frozen_of_row _ w.heap.size j _ _ HX1n.out
              simp only [List.getElem?_toArray, List.getElem?_cons_zero, List.getElem?_cons_succ] at x0 x1 x2 x3 x4 x5 z0 z1 z2 z3 z4 z5
              have hplb : pl ≤ (s.extract (u + 1) e).data.toList.length := by have := un_place _ (s.extract (u + 1) e).data.toList 0 [] (Nat.le_refl _); rw [hpl] at this; omega
              rw [← Lib.size_eq] at hplb
              simp at hplb
              by_cases h0 : er = 0
              ·
               subst h0
               have hP : plainT (s.extract (u + 1) e).data.toList (p3T s (v + 1) + 1) = .ok xo := by unfold plainT; rw [her, if_pos rfl, hxo]
               have hAt := a_ok (acc := acc) hnO hM hbq hU (HBB.out.trans hBe) hP
               have hT3 : attrsT s kk (e + 1) (acc ++ [⟨s.extract p m, ⟨xo.toArray⟩⟩]) = RA := by rw [← hT2, hAt]
               have HT3 := Lib.hid hT3
               have HN0 := Lib.hid HAn.out.1
               have hsz5 : w.heap.size + 1 < w4.heap.size := World.block_lt_of_cell? w4 _ x0
               clear hT2 hAt hP hErr hT3 hxo hpl her hM hbq hU hnO
               go_wp2_with fail
               go_region_law (refine Kd.R_append_step k92 (w0 := w4) (W := w4.drew) w.heap.size (by rfl) (.tmp 156) (.tmp 163) 86 92 _ 32 (by rfl) Tryz.underlying86 info92 rfl (by decide) (by decide) (.slice A acc.length cap) (acc.map tr77) ⟨s.extract p m, ⟨xo.toArray⟩⟩ [.string (s.extract p m), .string ⟨xo.toArray⟩] (fun k => w.heap.size + 1 < k) (fun _ => False) (by simp [Act.eval, Act.put]) (by simp [Act.eval, Act.put]) (k92_mkM _ _ _ ⟨s.extract p m, ⟨xo.toArray⟩⟩) (fun _ h => h.elim) (fun k hk => by simp at hk; omega) (Kd.R_drewN HAn.out 1) ((Below.refl _ _).drew) (by simp; omega) (by simp; omega) ?_; intro v5 w5 hA5 hb5 hg5 hat5; obtain ⟨A1, c1, rfl⟩ := Kd.R_slice hA5; (have hl1 : (acc.map tr77 ++ [(⟨s.extract p m, ⟨xo.toArray⟩⟩ : S92)]).length = acc.length + 1 := by simp); rw [hl1] at hA5; clear hl1; have HX2m : Aside0 (Bx88 (w.heap.size + 1) (.int .u8 1) (.string nm) (.string ⟨#[]⟩) (.slice A acc.length cap) (.bool false) (.int .i64 i) w5) := ⟨(hg5.block _ (by simp; omega) (fun e => Nat.lt_irrefl _ (HN0.out _ e.symm))).trans HX2n.out⟩; have HX1m : Aside0 (Bx88 w.heap.size (.int .u8 0) (.string ⟨#[]⟩) (.string ⟨#[]⟩) (.slice none 0 0) (.bool false) (.int .i64 0) w5) := ⟨(hg5.block _ (by simp; omega) (fun e => by have := HN0.out _ e.symm; omega)).trans HX1n.out⟩; clear x0 x1 x2 x3 x4 x5 z0 z1 z2 z3 z4 z5 fx fz; have y3 := HX2m.out.at_ 3; have fy3 := frozen_of_row _ (w.heap.size + 1) 3 _ _ HX2m.out; simp at y3; have HA5 := Lib.hid hA5; have HB5 := Lib.hid hb5; clear hA5 hb5 hg5 hat5)
               all_goals
                go_wp2_with fail
                go_roundg kk
                case measure => omega
                case rel => exact ⟨e + 1, acc ++ [⟨s.extract p m, ⟨xo.toArray⟩⟩], _, by go_num, ⟨by have := HK.out; omega, by simp at hes; omega⟩, ⟨by have := HF.out; omega⟩, ⟨by have := HL.out; simp; omega⟩, ⟨HT3.out⟩, ⟨HX1m.out.far (by omega) _⟩, ⟨heap_setCell_same _ _ 3 _ _ _ HX2m.out⟩, ⟨(HBn.out.trans HB5.out).setCell (p := ⟨w.heap.size + 1, 3, none⟩) (by show w.heap.size ≤ w.heap.size + 1; omega) _⟩, ⟨R_box (by rw [List.map_append]; exact HA5.out) (Nat.le_refl _) _⟩⟩
              ·
               have hP : plainT (s.extract (u + 1) e).data.toList (p3T s (v + 1) + 1) = .error (u + 1 + pl, er) := by
                unfold plainT
                rw [her, if_neg h0, hpl, hu]
               obtain rfl := hErr _ (a_e6 hnO hM hbq hU (HBB.out.trans hBe) hP)
               clear hErr hP
               have hne : (er == 0) = false := beq_eq_false_iff_ne.2 h0
               go_wp2_with fail
               refine bodyPost_ret (results60 (Bx88.set6 HX1n.out _ _ _ _ _ _) _ rfl rfl rfl) rfl ?_
               exact ⟨by first | rfl | simp | (simp; omega), below_set6 HBn.out (Nat.le_refl _) _ _ _ _ _ _⟩
          | false =>
           obtain rfl : tw2 = tw := htw2
           go_wp2_with fail
           refine (hlt _).mono ?_
           rintro e1 w3 ⟨rfl, n14, rfl⟩
           go_wp2_with fail
           clear hlt htw
           go_loopg [14, 15] (acc.length + 1) (fun kq v14 v15 wr2 => ∃ (b : Bool) (j : Nat), v14 = .bool b ∧ v15 = .int .i64 j ∧ Aside0 (j ≤ acc.length ∧ kq + j = acc.length + 1) ∧ Aside0 ((b || hasName (acc.drop j) (s.extract p m)) = B) ∧ Drawn0 wr wr2)
           case atStart => exact ⟨tw2, 0, rfl, rfl, ⟨Nat.zero_le _, by omega⟩, hB3, dr0⟩
           case round =>
            obtain ⟨b, j, rfl, rfl, HJ, HBb, ⟨nn, rfl⟩⟩ := hrel
            have hj0 := HJ.out.1
            by_cases hj : j < acc.length
            ·
             obtain ⟨ae, ea, ha0, ha1⟩ := at_T92 HC.out (j : Int) (by omega) (by omega)
             cases ea
             rw [rd_map77 _ j hj] at ha0
             simp only [tr77, Int.toNat_natCast] at ha0
             have hdr : hasName (acc.drop j) (s.extract p m) = (((rd_T77 acc (j : Int)).f0.toList == (s.extract p m).toList) || hasName (acc.drop (j + 1)) (s.extract p m)) := by
              rw [List.drop_eq_getElem_cons hj]
              have : rd_T77 acc (j : Int) = acc[j] := by unfold rd_T77; simp [List.getD_eq_getElem?_getD, hj]
              rw [this]
              rfl
             generalize rd_T77 acc (j : Int) = y at ha0 hdr
             clear ha1
             obtain ⟨c, hc⟩ : ∃ c, (y.f0.toList == (s.extract p m).toList) = c := ⟨_, rfl⟩
             have HB4 : Aside0 (((b || c) || hasName (acc.drop (j + 1)) (s.extract p m)) = B) := ⟨by rw [← HBb.out, hdr, hc, Bool.or_assoc]⟩
             clear hdr HBb
             cases b with
             | true =>
              go_wp2_with fail
              refine wp_region_quiet_lit (by kernel_rfl) (by kernel_rfl) ?_
              repeat (go_big_quiet_step (fail))
              refine wpQuiet_nil ?_
              intro _ h
              obtain ⟨nq, h'⟩ := h
              subst h'
              go_wp2_with fail
              go_roundg (acc.length - j)
              case measure => have := HJ.out.2; omega
              case rel => exact ⟨true, j + 1, by go_num, by go_num, ⟨by omega, by omega⟩, ⟨by rw [← HB4.out]; rfl⟩, dr0⟩
             | false =>
              go_wp2_with fail
              refine wp_region_quiet_lit (by kernel_rfl) (by kernel_rfl) ?_
              repeat (go_big_quiet_step (fail))
              refine wpQuiet_nil ?_
              intro _ h
              obtain ⟨nq, h'⟩ := h
              subst h'
              go_wp2_with fail
              go_roundg (acc.length - j)
              case measure => have := HJ.out.2; omega
              case rel => exact ⟨c, j + 1, by go_num, by go_num, ⟨by omega, by omega⟩, ⟨by rw [← HB4.out]; rfl⟩, dr0⟩
            ·
             have hBe : B = b := by
              rw [← HBb.out, List.drop_of_length_le (by omega)]
              cases b <;> rfl
             clear HBb
             cases b with
             | true =>
              obtain rfl := hErr _ (a_e5 hnO hM hbq hU (HBB.out.trans hBe))
              clear hErr
              go_wp2_with fail
              refine bodyPost_ret (results60 (Bx88.set6 (HX1.out.drewN _) _ _ _ _ _ _) _ rfl rfl rfl) rfl ?_
              exact ⟨by first | rfl | simp | (simp; omega), below_set6 (pw_below_drewN HB.out _) (Nat.le_refl _) _ _ _ _ _ _⟩
             | false =>
              have hun := fun w => rUnesc (s.extract (u + 1) e) (by simp; omega) w
              obtain ⟨xo, hxo⟩ : ∃ xo, (un (s.extract (u + 1) e).data.toList 0 []).1 = xo := ⟨_, rfl⟩
              obtain ⟨pl, hpl⟩ : ∃ pl, (un (s.extract (u + 1) e).data.toList 0 []).2.1 = pl := ⟨_, rfl⟩
              obtain ⟨er, her⟩ : ∃ er, (un (s.extract (u + 1) e).data.toList 0 []).2.2 = er := ⟨_, rfl⟩
              simp only [hxo, hpl, her] at hun
              go_wp2_with fail
              refine (hun _).mono ?_
              rintro e2 w4 ⟨rfl, hb4⟩
              clear hun
              have hsz : wr.heap.size ≤ w4.heap.size := by have := hb4.size; simp at this; exact this
              have HX1n : Aside0 (Bx88 w.heap.size (.int .u8 0) (.string ⟨#[]⟩) (.string ⟨#[]⟩) (.slice none 0 0) (.bool false) (.int .i64 0) w4) := ⟨(hb4.block _ (World.block_lt_of_cell? wr _ z0)).trans HX1.out⟩
              have HX2n : Aside0 (Bx88 (w.heap.size + 1) (.int .u8 1) (.string nm) (.string ⟨#[]⟩) (.slice A acc.length cap) (.bool false) (.int .i64 i) w4) := ⟨(hb4.block _ (World.block_lt_of_cell? wr _ x0)).trans HX2.out⟩
              have HBn : Aside0 (Below w.heap.size w w4) := ⟨(pw_below_drewN HB.out nn).trans (hb4.mono (by simp; exact HB.out.size))⟩
              have HAn : Aside0 (k92.R 92 w4 w.heap.size (fun k => w.heap.size + 1 < k) (.slice A acc.length cap) (acc.map tr77)) := ⟨Kd.R_mono (Kd.R_old (Kd.R_drewN HA.out nn) hb4) (fun _ h => h.1)⟩
              clear x0 x1 x2 x3 x4 x5 z0 z1 z2 z3 z4 z5 fx fz
              have x0 := HX2n.out.at_ 0
              have x1 := HX2n.out.at_ 1
              have x2 := HX2n.out.at_ 2
              have x3 := HX2n.out.at_ 3
              have x4 := HX2n.out.at_ 4
              have x5 := HX2n.out.at_ 5
              have z0 := HX1n.out.at_ 0
              have z1 := HX1n.out.at_ 1
              have z2 := HX1n.out.at_ 2
              have z3 := HX1n.out.at_ 3
              have z4 := HX1n.out.at_ 4
              have z5 := HX1n.out.at_ 5
              have fx := fun j => frozen_of_row _ (w.heap.size + 1) j _ _ HX2n.out
              have fz := fun j => frozen_of_row _ w.heap.size j _ _ HX1n.out
              simp only [List.getElem?_toArray, List.getElem?_cons_zero, List.getElem?_cons_succ] at x0 x1 x2 x3 x4 x5 z0 z1 z2 z3 z4 z5
              have hplb : pl ≤ (s.extract (u + 1) e).data.toList.length := by have := un_place _ (s.extract (u + 1) e).data.toList 0 [] (Nat.le_refl _); rw [hpl] at this; omega
              rw [← Lib.size_eq] at hplb
              simp at hplb
              by_cases h0 : er = 0
              ·
               subst h0
               have hP : plainT (s.extract (u + 1) e).data.toList (p3T s (v + 1) + 1) = .ok xo := by unfold plainT; rw [her, if_pos rfl, hxo]
               have hAt := a_ok (acc := acc) hnO hM hbq hU (HBB.out.trans hBe) hP
               have hT3 : attrsT s kk (e + 1) (acc ++ [⟨s.extract p m, ⟨xo.toArray⟩⟩]) = RA := by rw [← hT2, hAt]
               have HT3 := Lib.hid hT3
               have HN0 := Lib.hid HAn.out.1
               have hsz5 : w.heap.size + 1 < w4.heap.size := World.block_lt_of_cell? w4 _ x0
               clear hT2 hAt hP hErr hT3 hxo hpl her hM hbq hU hnO
               go_wp2_with fail
               go_region_law (refine Kd.R_append_step k92 (w0 := w4) (W := w4.drew) w.heap.size (by rfl) (.tmp 156) (.tmp 163) 86 92 _ 32 (by rfl) Tryz.underlying86 info92 rfl (by decide) (by decide) (.slice A acc.length cap) (acc.map tr77) ⟨s.extract p m, ⟨xo.toArray⟩⟩ [.string (s.extract p m), .string ⟨xo.toArray⟩] (fun k => w.heap.size + 1 < k) (fun _ => False) (by simp [Act.eval, Act.put]) (by simp [Act.eval, Act.put]) (k92_mkM _ _ _ ⟨s.extract p m, ⟨xo.toArray⟩⟩) (fun _ h => h.elim) (fun k hk => by simp at hk; omega) (Kd.R_drewN HAn.out 1) ((Below.refl _ _).drew) (by simp; omega) (by simp; omega) ?_; intro v5 w5 hA5 hb5 hg5 hat5; obtain ⟨A1, c1, rfl⟩ := Kd.R_slice hA5; (have hl1 : (acc.map tr77 ++ [(⟨s.extract p m, ⟨xo.toArray⟩⟩ : S92)]).length = acc.length + 1 := by simp); rw [hl1] at hA5; clear hl1; have HX2m : Aside0 (Bx88 (w.heap.size + 1) (.int .u8 1) (.string nm) (.string ⟨#[]⟩) (.slice A acc.length cap) (.bool false) (.int .i64 i) w5) := ⟨(hg5.block _ (by simp; omega) (fun e => Nat.lt_irrefl _ (HN0.out _ e.symm))).trans HX2n.out⟩; have HX1m : Aside0 (Bx88 w.heap.size (.int .u8 0) (.string ⟨#[]⟩) (.string ⟨#[]⟩) (.slice none 0 0) (.bool false) (.int .i64 0) w5) := ⟨(hg5.block _ (by simp; omega) (fun e => by have := HN0.out _ e.symm; omega)).trans HX1n.out⟩; clear x0 x1 x2 x3 x4 x5 z0 z1 z2 z3 z4 z5 fx fz; have y3 := HX2m.out.at_ 3; have fy3 := frozen_of_row _ (w.heap.size + 1) 3 _ _ HX2m.out; simp at y3; have HA5 := Lib.hid hA5; have HB5 := Lib.hid hb5; clear hA5 hb5 hg5 hat5)
               all_goals
                go_wp2_with fail
                go_roundg kk
                case measure => omega
                case rel => exact ⟨e + 1, acc ++ [⟨s.extract p m, ⟨xo.toArray⟩⟩], _, by go_num, ⟨by have := HK.out; omega, by simp at hes; omega⟩, ⟨by have := HF.out; omega⟩, ⟨by have := HL.out; simp; omega⟩, ⟨HT3.out⟩, ⟨HX1m.out.far (by omega) _⟩, ⟨heap_setCell_same _ _ 3 _ _ _ HX2m.out⟩, ⟨(HBn.out.trans HB5.out).setCell (p := ⟨w.heap.size + 1, 3, none⟩) (by show w.heap.size ≤ w.heap.size + 1; omega) _⟩, ⟨R_box (by rw [List.map_append]; exact HA5.out) (Nat.le_refl _) _⟩⟩
              ·
               have hP : plainT (s.extract (u + 1) e).data.toList (p3T s (v + 1) + 1) = .error (u + 1 + pl, er) := by
                unfold plainT
                rw [her, if_neg h0, hpl, hu]
               obtain rfl := hErr _ (a_e6 hnO hM hbq hU (HBB.out.trans hBe) hP)
               clear hErr hP
               have hne : (er == 0) = false := beq_eq_false_iff_ne.2 h0
               go_wp2_with fail
               refine bodyPost_ret (results60 (Bx88.set6 HX1n.out _ _ _ _ _ _) _ rfl rfl rfl) rfl ?_
               exact ⟨by first | rfl | simp | (simp; omega), below_set6 HBn.out (Nat.le_refl _) _ _ _ _ _ _⟩
       | true =>
        rw [h39] at hat1
        refine (hat1 _).mono ?_
        rintro e w3 ⟨rfl, n11, rfl⟩
        have hbq : ¬ badQ ((rs s (p3T s (v + 1))).take 1) := by
         rw [hu]
         intro h
         exact absurd ((quote_bad s u).1 h).1 (by rw [h39]; simp)
        obtain ⟨hus, huc⟩ := head_one s u 39 h39
        clear h39 hat1 hat2
        have hsq : ∀ w : World, (Instr.slice 9 (.string s) (some (.int .i64 (u : Int))) (some (.int .i64 ((u : Int) + 1))) none).run Tryz.prog w = .ok (.string ⟨#[39]⟩) w := fun w => by
         rw [← huc.1]
         exact slice_two s (u : Int) ((u : Int) + 1) u (u + 1) rfl (by omega) (by omega) (by omega) w
        have hfd := fun w => rFind s ⟨#[39]⟩ (u + 1) _ rfl w (by omega) (by omega) (by decide) (by decide)
        rw [show ((u + 1 : Nat) : Int) = (u : Int) + 1 by omega] at hfd
        go_wp2_with fail
        refine (hfd _).mono ?_
        rintro e w3 ⟨rfl, n13, rfl⟩
        clear hfd
        rcases until_find s (u + 1) [39] (by omega) with ⟨hf1, hf2⟩ | ⟨e, hf1, hue, hes, hf2⟩
        ·
         obtain rfl := hErr _ (a_e4 (z := (u + 1, 21)) hnO hM hbq (by rw [hu, huc.2]; exact hf2))
         rw [hf1]
         clear hErr hf1 hf2
         go_wp2_with fail
         refine bodyPost_ret (results60 (Bx88.set6 (HX1.out.drewN _) _ _ _ _ _ _) _ rfl rfl rfl) rfl ?_
         exact ⟨by first | rfl | simp | (simp; omega), below_set6 (pw_below_drewN HB.out _) (Nat.le_refl _) _ _ _ _ _ _⟩
        ·
         rw [hf1]
         have g4 : decide ((e : Int) < 0) = false := decide_eq_false (by omega)
         have hU : untilT s (p3T s (v + 1) + 1) ((rs s (p3T s (v + 1))).take 1) = .ok ((s.extract (u + 1) e).data.toList, e + 1) := by rw [hu, huc.2]; exact hf2
         have hsr : ∀ w : World, (Instr.slice 9 (.string s) (some (.int .i64 ((u : Int) + 1))) (some (.int .i64 (e : Int))) none).run Tryz.prog w = .ok (.string (s.extract (u + 1) e)) w := fun w => slice_two s ((u : Int) + 1) (e : Int) (u + 1) e (by omega) rfl hue (by simp at hes; omega) w
         clear hf1 hf2
         have hlt := fun w => rFind (s.extract (u + 1) e) ⟨#[60]⟩ 0 _ rfl w (by omega) (by simp; omega) (by decide) (by decide)
         have hC := (Kd.R_reads' HA.out).2.2
         rw [List.length_map] at hC
         have HC := Lib.hid hC
         have hsn : ∀ w : World, (Instr.slice 9 (.string s) (some (.int .i64 (p : Int))) (some (.int .i64 (m : Int))) none).run Tryz.prog w = .ok (.string (s.extract p m)) w := fun w => slice_two s (p : Int) (m : Int) p m rfl rfl (by omega) (by omega) w
         obtain ⟨B, hB⟩ : ∃ B, badV (s.extract (u + 1) e).data.toList acc (s.extract p m).data.toList = B := ⟨_, rfl⟩
         obtain ⟨tw, htw⟩ : ∃ tw, decide (0 ≤ findZ (s.extract (u + 1) e) 0 [60]) = tw := ⟨_, rfl⟩
         have hB2 : (tw || acc.length == 20 || hasName acc (s.extract p m)) = B := by
          rw [← hB, ← htw, ← find_contains]
          rfl
         clear hC
         have hal : acc.length ≤ 3000 := by have := HL.out; omega
         obtain ⟨C20, h20⟩ : ∃ C20, (acc.length == 20) = C20 := ⟨_, rfl⟩
         have h20b : ((acc.length : Int) == 20) = C20 := by
          rw [← h20, Bool.eq_iff_iff, beq_iff_eq, beq_iff_eq]
          omega
         rw [h20] at hB2
         clear h20
         have hBx : ∃ tw2, tw2 = (C20 || tw) ∧ Aside0 ((tw2 || hasName acc (s.extract p m)) = B) := ⟨_, rfl, ⟨by rw [← hB2]; cases C20 <;> cases tw <;> rfl⟩⟩
         obtain ⟨tw2, htw2, hB3⟩ := hBx
         clear hB2
         have HBB := Lib.hid hB
         clear hB
         cases C20 with
         | true =>
          obtain rfl : tw2 = true := htw2
          clear hlt htw
          go_wp2_with fail
          go_loopg [14, 15] (acc.length + 1) (fun kq v14 v15 wr2 => ∃ (b : Bool) (j : Nat), v14 = .bool b ∧ v15 = .int .i64 j ∧ Aside0 (j ≤ acc.length ∧ kq + j = acc.length + 1) ∧ Aside0 ((b || hasName (acc.drop j) (s.extract p m)) = B) ∧ Drawn0 wr wr2)
          case atStart => exact ⟨true, 0, rfl, rfl, ⟨Nat.zero_le _, by omega⟩, hB3, dr0⟩
          case round =>
           obtain ⟨b, j, rfl, rfl, HJ, HBb, ⟨nn, rfl⟩⟩ := hrel
           have hj0 := HJ.out.1
           by_cases hj : j < acc.length
           ·
            obtain ⟨ae, ea, ha0, ha1⟩ := at_T92 HC.out (j : Int) (by omega) (by omega)
            cases ea
            rw [rd_map77 _ j hj] at ha0
            simp only [tr77, Int.toNat_natCast] at ha0
            have hdr : hasName (acc.drop j) (s.extract p m) = (((rd_T77 acc (j : Int)).f0.toList == (s.extract p m).toList) || hasName (acc.drop (j + 1)) (s.extract p m)) := by
             rw [List.drop_eq_getElem_cons hj]
             have : rd_T77 acc (j : Int) = acc[j] := by unfold rd_T77; simp [List.getD_eq_getElem?_getD, hj]
             rw [this]
             rfl
            generalize rd_T77 acc (j : Int) = y at ha0 hdr
            clear ha1
            obtain ⟨c, hc⟩ : ∃ c, (y.f0.toList == (s.extract p m).toList) = c := ⟨_, rfl⟩
            have HB4 : Aside0 (((b || c) || hasName (acc.drop (j + 1)) (s.extract p m)) = B) := ⟨by rw [← HBb.out, hdr, hc, Bool.or_assoc]⟩
            clear hdr HBb
            cases b with
            | true =>
             go_wp2_with fail
             refine wp_region_quiet_lit (by kernel_rfl) (by kernel_rfl) ?_
             repeat (go_big_quiet_step (fail))
             refine wpQuiet_nil ?_
             intro _ h
             obtain ⟨nq, h'⟩ := h
             subst h'
             go_wp2_with fail
             go_roundg (acc.length - j)
             case measure => have := HJ.out.2; omega
             case rel => exact ⟨true, j + 1, by go_num, by go_num, ⟨by omega, by omega⟩, ⟨by rw [← HB4.out]; rfl⟩, dr0⟩
            | false =>
             go_wp2_with fail
             refine wp_region_quiet_lit (by kernel_rfl) (by kernel_rfl) ?_
             repeat (go_big_quiet_step (fail))
             refine wpQuiet_nil ?_
             intro _ h
             obtain ⟨nq, h'⟩ := h
             subst h'
             go_wp2_with fail
             go_roundg (acc.length - j)
             case measure => have := HJ.out.2; omega
             case rel => exact ⟨c, j + 1, by go_num, by go_num, ⟨by omega, by omega⟩, ⟨by rw [← HB4.out]; rfl⟩, dr0⟩
           ·
            have hBe : B = b := by
             rw [← HBb.out, List.drop_of_length_le (by omega)]
             cases b <;> rfl
            clear HBb
            cases b with
            | true =>
             obtain rfl := hErr _ (a_e5 hnO hM hbq hU (HBB.out.trans hBe))
             clear hErr
             go_wp2_with fail
             refine bodyPost_ret (results60 (Bx88.set6 (HX1.out.drewN _) _ _ _ _ _ _) _ rfl rfl rfl) rfl ?_
             exact ⟨by first | rfl | simp | (simp; omega), below_set6 (pw_below_drewN HB.out _) (Nat.le_refl _) _ _ _ _ _ _⟩
            | false =>
             have hun := fun w => rUnesc (s.extract (u + 1) e) (by simp; omega) w
             obtain ⟨xo, hxo⟩ : ∃ xo, (un (s.extract (u + 1) e).data.toList 0 []).1 = xo := ⟨_, rfl⟩
             obtain ⟨pl, hpl⟩ : ∃ pl, (un (s.extract (u + 1) e).data.toList 0 []).2.1 = pl := ⟨_, rfl⟩
             obtain ⟨er, her⟩ : ∃ er, (un (s.extract (u + 1) e).data.toList 0 []).2.2 = er := ⟨_, rfl⟩
             simp only [hxo, hpl, her] at hun
             go_wp2_with fail
             refine (hun _).mono ?_
             rintro e2 w4 ⟨rfl, hb4⟩
             clear hun
             have hsz : wr.heap.size ≤ w4.heap.size := by have := hb4.size; simp at this; exact this
             have HX1n : Aside0 (Bx88 w.heap.size (.int .u8 0) (.string ⟨#[]⟩) (.string ⟨#[]⟩) (.slice none 0 0) (.bool false) (.int .i64 0) w4) := ⟨(hb4.block _ (World.block_lt_of_cell? wr _ z0)).trans HX1.out⟩
             have HX2n : Aside0 (Bx88 (w.heap.size + 1) (.int .u8 1) (.string nm) (.string ⟨#[]⟩) (.slice A acc.length cap) (.bool false) (.int .i64 i) w4) := ⟨(hb4.block _ (World.block_lt_of_cell? wr _ x0)).trans HX2.out⟩
             have HBn : Aside0 (Below w.heap.size w w4) := ⟨(pw_below_drewN HB.out nn).trans (hb4.mono (by simp; exact HB.out.size))⟩
             have HAn : Aside0 (k92.R 92 w4 w.heap.size (fun k => w.heap.size + 1 < k) (.slice A acc.length cap) (acc.map tr77)) := ⟨Kd.R_mono (Kd.R_old (Kd.R_drewN HA.out nn) hb4) (fun _ h => h.1)⟩
             clear x0 x1 x2 x3 x4 x5 z0 z1 z2 z3 z4 z5 fx fz
             have x0 := HX2n.out.at_ 0
             have x1 := HX2n.out.at_ 1
             have x2 := HX2n.out.at_ 2
             have x3 := HX2n.out.at_ 3
             have x4 := HX2n.out.at_ 4
             have x5 := HX2n.out.at_ 5
             have z0 := HX1n.out.at_ 0
             have z1 := HX1n.out.at_ 1
             have z2 := HX1n.out.at_ 2
             have z3 := HX1n.out.at_ 3
             have z4 := HX1n.out.at_ 4
             have z5 := HX1n.out.at_ 5
             have fx := fun j => frozen_of_row _ (w.heap.size + 1) j _ _ HX2n.out
             have fz := fun j => frozen_of_row _ w.heap.size j _ _ HX1n.out
             simp only [List.getElem?_toArray, List.getElem?_cons_zero, List.getElem?_cons_succ] at x0 x1 x2 x3 x4 x5 z0 z1 z2 z3 z4 z5
             have hplb : pl ≤ (s.extract (u + 1) e).data.toList.length := by have := un_place _ (s.extract (u + 1) e).data.toList 0 [] (Nat.le_refl _); rw [hpl] at this; omega
             rw [← Lib.size_eq] at hplb
             simp at hplb
             by_cases h0 : er = 0
             ·
              subst h0
              have hP : plainT (s.extract (u + 1) e).data.toList (p3T s (v + 1) + 1) = .ok xo := by unfold plainT; rw [her, if_pos rfl, hxo]
              have hAt := a_ok (acc := acc) hnO hM hbq hU (HBB.out.trans hBe) hP
              have hT3 : attrsT s kk (e + 1) (acc ++ [⟨s.extract p m, ⟨xo.toArray⟩⟩]) = RA := by rw [← hT2, hAt]
              have HT3 := Lib.hid hT3
              have HN0 := Lib.hid HAn.out.1
              have hsz5 : w.heap.size + 1 < w4.heap.size := World.block_lt_of_cell? w4 _ x0
              clear hT2 hAt hP hErr hT3 hxo hpl her hM hbq hU hnO
              go_wp2_with fail
              go_region_law (refine Kd.R_append_step k92 (w0 := w4) (W := w4.drew) w.heap.size (by rfl) (.tmp 156) (.tmp 163) 86 92 _ 32 (by rfl) Tryz.underlying86 info92 rfl (by decide) (by decide) (.slice A acc.length cap) (acc.map tr77) ⟨s.extract p m, ⟨xo.toArray⟩⟩ [.string (s.extract p m), .string ⟨xo.toArray⟩] (fun k => w.heap.size + 1 < k) (fun _ => False) (by simp [Act.eval, Act.put]) (by simp [Act.eval, Act.put]) (k92_mkM _ _ _ ⟨s.extract p m, ⟨xo.toArray⟩⟩) (fun _ h => h.elim) (fun k hk => by simp at hk; omega) (Kd.R_drewN HAn.out 1) ((Below.refl _ _).drew) (by simp; omega) (by simp; omega) ?_; intro v5 w5 hA5 hb5 hg5 hat5; obtain ⟨A1, c1, rfl⟩ := Kd.R_slice hA5; (have hl1 : (acc.map tr77 ++ [(⟨s.extract p m, ⟨xo.toArray⟩⟩ : S92)]).length = acc.length + 1 := by simp); rw [hl1] at hA5; clear hl1; have HX2m : Aside0 (Bx88 (w.heap.size + 1) (.int .u8 1) (.string nm) (.string ⟨#[]⟩) (.slice A acc.length cap) (.bool false) (.int .i64 i) w5) := ⟨(hg5.block _ (by simp; omega) (fun e => Nat.lt_irrefl _ (HN0.out _ e.symm))).trans HX2n.out⟩; have HX1m : Aside0 (Bx88 w.heap.size (.int .u8 0) (.string ⟨#[]⟩) (.string ⟨#[]⟩) (.slice none 0 0) (.bool false) (.int .i64 0) w5) := ⟨(hg5.block _ (by simp; omega) (fun e => by have := HN0.out _ e.symm; omega)).trans HX1n.out⟩; clear x0 x1 x2 x3 x4 x5 z0 z1 z2 z3 z4 z5 fx fz; have y3 := HX2m.out.at_ 3; have fy3 := frozen_of_row _ (w.heap.size + 1) 3 _ _ HX2m.out; simp at y3; have HA5 := Lib.hid hA5; have HB5 := Lib.hid hb5; clear hA5 hb5 hg5 hat5)
              all_goals
               go_wp2_with fail
               go_roundg kk
               case measure => omega
               case rel => exact ⟨e + 1, acc ++ [⟨s.extract p m, ⟨xo.toArray⟩⟩], _, by go_num, ⟨by have := HK.out; omega, by simp at hes; omega⟩, ⟨by have := HF.out; omega⟩, ⟨by have := HL.out; simp; omega⟩, ⟨HT3.out⟩, ⟨HX1m.out.far (by omega) _⟩, ⟨heap_setCell_same _ _ 3 _ _ _ HX2m.out⟩, ⟨(HBn.out.trans HB5.out).setCell (p := ⟨w.heap.size + 1, 3, none⟩) (by show w.heap.size ≤ w.heap.size + 1; omega) _⟩, ⟨R_box (by rw [List.map_append]; exact HA5.out) (Nat.le_refl _) _⟩⟩
             ·
              have hP : plainT (s.extract (u + 1) e).data.toList (p3T s (v + 1) + 1) = .error (u + 1 + pl, er) := by
               unfold plainT
               rw [her, if_neg h0, hpl, hu]
              obtain rfl := hErr _ (a_e6 hnO hM hbq hU (HBB.out.trans hBe) hP)
              clear hErr hP
              have hne : (er == 0) = false := beq_eq_false_iff_ne.2 h0
              go_wp2_with fail
              refine bodyPost_ret (results60 (Bx88.set6 HX1n.out _ _ _ _ _ _) _ rfl rfl rfl) rfl ?_
              exact ⟨by first | rfl | simp | (simp; omega), below_set6 HBn.out (Nat.le_refl _) _ _ _ _ _ _⟩
         | false =>
          obtain rfl : tw2 = tw := htw2
          go_wp2_with fail
          refine (hlt _).mono ?_
          rintro e1 w3 ⟨rfl, n14, rfl⟩
          go_wp2_with fail
          clear hlt htw
          go_loopg [14, 15] (acc.length + 1) (fun kq v14 v15 wr2 => ∃ (b : Bool) (j : Nat), v14 = .bool b ∧ v15 = .int .i64 j ∧ Aside0 (j ≤ acc.length ∧ kq + j = acc.length + 1) ∧ Aside0 ((b || hasName (acc.drop j) (s.extract p m)) = B) ∧ Drawn0 wr wr2)
          case atStart => exact ⟨tw2, 0, rfl, rfl, ⟨Nat.zero_le _, by omega⟩, hB3, dr0⟩
          case round =>
           obtain ⟨b, j, rfl, rfl, HJ, HBb, ⟨nn, rfl⟩⟩ := hrel
           have hj0 := HJ.out.1
           by_cases hj : j < acc.length
           ·
            obtain ⟨ae, ea, ha0, ha1⟩ := at_T92 HC.out (j : Int) (by omega) (by omega)
            cases ea
            rw [rd_map77 _ j hj] at ha0
            simp only [tr77, Int.toNat_natCast] at ha0
            have hdr : hasName (acc.drop j) (s.extract p m) = (((rd_T77 acc (j : Int)).f0.toList == (s.extract p m).toList) || hasName (acc.drop (j + 1)) (s.extract p m)) := by
             rw [List.drop_eq_getElem_cons hj]
             have : rd_T77 acc (j : Int) = acc[j] := by unfold rd_T77; simp [List.getD_eq_getElem?_getD, hj]
             rw [this]
             rfl
            generalize rd_T77 acc (j : Int) = y at ha0 hdr
            clear ha1
            obtain ⟨c, hc⟩ : ∃ c, (y.f0.toList == (s.extract p m).toList) = c := ⟨_, rfl⟩
            have HB4 : Aside0 (((b || c) || hasName (acc.drop (j + 1)) (s.extract p m)) = B) := ⟨by rw [← HBb.out, hdr, hc, Bool.or_assoc]⟩
            clear hdr HBb
            cases b with
            | true =>
             go_wp2_with fail
             refine wp_region_quiet_lit (by kernel_rfl) (by kernel_rfl) ?_
             repeat (go_big_quiet_step (fail))
             refine wpQuiet_nil ?_
             intro _ h
             obtain ⟨nq, h'⟩ := h
             subst h'
             go_wp2_with fail
             go_roundg (acc.length - j)
             case measure => have := HJ.out.2; omega
             case rel => exact ⟨true, j + 1, by go_num, by go_num, ⟨by omega, by omega⟩, ⟨by rw [← HB4.out]; rfl⟩, dr0⟩
            | false =>
             go_wp2_with fail
             refine wp_region_quiet_lit (by kernel_rfl) (by kernel_rfl) ?_
             repeat (go_big_quiet_step (fail))
             refine wpQuiet_nil ?_
             intro _ h
             obtain ⟨nq, h'⟩ := h
             subst h'
             go_wp2_with fail
             go_roundg (acc.length - j)
             case measure => have := HJ.out.2; omega
             case rel => exact ⟨c, j + 1, by go_num, by go_num, ⟨by omega, by omega⟩, ⟨by rw [← HB4.out]; rfl⟩, dr0⟩
           ·
            have hBe : B = b := by
             rw [← HBb.out, List.drop_of_length_le (by omega)]
             cases b <;> rfl
            clear HBb
            cases b with
            | true =>
             obtain rfl := hErr _ (a_e5 hnO hM hbq hU (HBB.out.trans hBe))
             clear hErr
             go_wp2_with fail
             refine bodyPost_ret (results60 (Bx88.set6 (HX1.out.drewN _) _ _ _ _ _ _) _ rfl rfl rfl) rfl ?_
             exact ⟨by first | rfl | simp | (simp; omega), below_set6 (pw_below_drewN HB.out _) (Nat.le_refl _) _ _ _ _ _ _⟩
            | false =>
             have hun := fun w => rUnesc (s.extract (u + 1) e) (by simp; omega) w
             obtain ⟨xo, hxo⟩ : ∃ xo, (un (s.extract (u + 1) e).data.toList 0 []).1 = xo := ⟨_, rfl⟩
             obtain ⟨pl, hpl⟩ : ∃ pl, (un (s.extract (u + 1) e).data.toList 0 []).2.1 = pl := ⟨_, rfl⟩
             obtain ⟨er, her⟩ : ∃ er, (un (s.extract (u + 1) e).data.toList 0 []).2.2 = er := ⟨_, rfl⟩
             simp only [hxo, hpl, her] at hun
             go_wp2_with fail
             refine (hun _).mono ?_
             rintro e2 w4 ⟨rfl, hb4⟩
             clear hun
             have hsz : wr.heap.size ≤ w4.heap.size := by have := hb4.size; simp at this; exact this
             have HX1n : Aside0 (Bx88 w.heap.size (.int .u8 0) (.string ⟨#[]⟩) (.string ⟨#[]⟩) (.slice none 0 0) (.bool false) (.int .i64 0) w4) := ⟨(hb4.block _ (World.block_lt_of_cell? wr _ z0)).trans HX1.out⟩
             have HX2n : Aside0 (Bx88 (w.heap.size + 1) (.int .u8 1) (.string nm) (.string ⟨#[]⟩) (.slice A acc.length cap) (.bool false) (.int .i64 i) w4) := ⟨(hb4.block _ (World.block_lt_of_cell? wr _ x0)).trans HX2.out⟩
             have HBn : Aside0 (Below w.heap.size w w4) := ⟨(pw_below_drewN HB.out nn).trans (hb4.mono (by simp; exact HB.out.size))⟩
             have HAn : Aside0 (k92.R 92 w4 w.heap.size (fun k => w.heap.size + 1 < k) (.slice A acc.length cap) (acc.map tr77)) := ⟨Kd.R_mono (Kd.R_old (Kd.R_drewN HA.out nn) hb4) (fun _ h => h.1)⟩
             clear x0 x1 x2 x3 x4 x5 z0 z1 z2 z3 z4 z5 fx fz
             have x0 := HX2n.out.at_ 0
             have x1 := HX2n.out.at_ 1
             have x2 := HX2n.out.at_ 2
             have x3 := HX2n.out.at_ 3
             have x4 := HX2n.out.at_ 4
             have x5 := HX2n.out.at_ 5
             have z0 := HX1n.out.at_ 0
             have z1 := HX1n.out.at_ 1
             have z2 := HX1n.out.at_ 2
             have z3 := HX1n.out.at_ 3
             have z4 := HX1n.out.at_ 4
             have z5 := HX1n.out.at_ 5
             have fx := fun j => frozen_of_row _ (w.heap.size + 1) j _ _ HX2n.out
             have fz := fun j => frozen_of_row _ w.heap.size j _ _ HX1n.out
             simp only [List.getElem?_toArray, List.getElem?_cons_zero, List.getElem?_cons_succ] at x0 x1 x2 x3 x4 x5 z0 z1 z2 z3 z4 z5
             have hplb : pl ≤ (s.extract (u + 1) e).data.toList.length := by have := un_place _ (s.extract (u + 1) e).data.toList 0 [] (Nat.le_refl _); rw [hpl] at this; omega
             rw [← Lib.size_eq] at hplb
             simp at hplb
             by_cases h0 : er = 0
             ·
              subst h0
              have hP : plainT (s.extract (u + 1) e).data.toList (p3T s (v + 1) + 1) = .ok xo := by unfold plainT; rw [her, if_pos rfl, hxo]
              have hAt := a_ok (acc := acc) hnO hM hbq hU (HBB.out.trans hBe) hP
              have hT3 : attrsT s kk (e + 1) (acc ++ [⟨s.extract p m, ⟨xo.toArray⟩⟩]) = RA := by rw [← hT2, hAt]
              have HT3 := Lib.hid hT3
              have HN0 := Lib.hid HAn.out.1
              have hsz5 : w.heap.size + 1 < w4.heap.size := World.block_lt_of_cell? w4 _ x0
              clear hT2 hAt hP hErr hT3 hxo hpl her hM hbq hU hnO
              go_wp2_with fail
              go_region_law (refine Kd.R_append_step k92 (w0 := w4) (W := w4.drew) w.heap.size (by rfl) (.tmp 156) (.tmp 163) 86 92 _ 32 (by rfl) Tryz.underlying86 info92 rfl (by decide) (by decide) (.slice A acc.length cap) (acc.map tr77) ⟨s.extract p m, ⟨xo.toArray⟩⟩ [.string (s.extract p m), .string ⟨xo.toArray⟩] (fun k => w.heap.size + 1 < k) (fun _ => False) (by simp [Act.eval, Act.put]) (by simp [Act.eval, Act.put]) (k92_mkM _ _ _ ⟨s.extract p m, ⟨xo.toArray⟩⟩) (fun _ h => h.elim) (fun k hk => by simp at hk; omega) (Kd.R_drewN HAn.out 1) ((Below.refl _ _).drew) (by simp; omega) (by simp; omega) ?_; intro v5 w5 hA5 hb5 hg5 hat5; obtain ⟨A1, c1, rfl⟩ := Kd.R_slice hA5; (have hl1 : (acc.map tr77 ++ [(⟨s.extract p m, ⟨xo.toArray⟩⟩ : S92)]).length = acc.length + 1 := by simp); rw [hl1] at hA5; clear hl1; have HX2m : Aside0 (Bx88 (w.heap.size + 1) (.int .u8 1) (.string nm) (.string ⟨#[]⟩) (.slice A acc.length cap) (.bool false) (.int .i64 i) w5) := ⟨(hg5.block _ (by simp; omega) (fun e => Nat.lt_irrefl _ (HN0.out _ e.symm))).trans HX2n.out⟩; have HX1m : Aside0 (Bx88 w.heap.size (.int .u8 0) (.string ⟨#[]⟩) (.string ⟨#[]⟩) (.slice none 0 0) (.bool false) (.int .i64 0) w5) := ⟨(hg5.block _ (by simp; omega) (fun e => by have := HN0.out _ e.symm; omega)).trans HX1n.out⟩; clear x0 x1 x2 x3 x4 x5 z0 z1 z2 z3 z4 z5 fx fz; have y3 := HX2m.out.at_ 3; have fy3 := frozen_of_row _ (w.heap.size + 1) 3 _ _ HX2m.out; simp at y3; have HA5 := Lib.hid hA5; have HB5 := Lib.hid hb5; clear hA5 hb5 hg5 hat5)
              all_goals
               go_wp2_with fail
               go_roundg kk
               case measure => omega
               case rel => exact ⟨e + 1, acc ++ [⟨s.extract p m, ⟨xo.toArray⟩⟩], _, by go_num, ⟨by have := HK.out; omega, by simp at hes; omega⟩, ⟨by have := HF.out; omega⟩, ⟨by have := HL.out; simp; omega⟩, ⟨HT3.out⟩, ⟨HX1m.out.far (by omega) _⟩, ⟨heap_setCell_same _ _ 3 _ _ _ HX2m.out⟩, ⟨(HBn.out.trans HB5.out).setCell (p := ⟨w.heap.size + 1, 3, none⟩) (by show w.heap.size ≤ w.heap.size + 1; omega) _⟩, ⟨R_box (by rw [List.map_append]; exact HA5.out) (Nat.le_refl _) _⟩⟩
             ·
              have hP : plainT (s.extract (u + 1) e).data.toList (p3T s (v + 1) + 1) = .error (u + 1 + pl, er) := by
               unfold plainT
               rw [her, if_neg h0, hpl, hu]
              obtain rfl := hErr _ (a_e6 hnO hM hbq hU (HBB.out.trans hBe) hP)
              clear hErr hP
              have hne : (er == 0) = false := beq_eq_false_iff_ne.2 h0
              go_wp2_with fail
              refine bodyPost_ret (results60 (Bx88.set6 HX1n.out _ _ _ _ _ _) _ rfl rfl rfl) rfl ?_
              exact ⟨by first | rfl | simp | (simp; omega), below_set6 HBn.out (Nat.le_refl _) _ _ _ _ _ _⟩
    ·
     have hend : Except.ok (acc, p) = RA := by
      rw [← hT, if_neg]
      intro h
      rw [Bool.and_eq_true, decide_eq_true_eq] at h
      refine hgo ⟨h.1, ?_⟩
      by_cases hps : p < s.size
      ·
       refine ⟨hps, ?_⟩
       rw [← head_at s p hps]
       exact h.2
      ·
       rw [head_end s p hps] at h
       cases h.2
     clear hT
     have hbreak : (n = 0 ∨ (n ≠ 0 ∧ ¬ p < s.size)) ∨ (0 < n ∧ ∃ h : p < s.size, isLet (s[p]'h) = false) := by
      by_cases h1 : n = 0
      ·
       exact .inl (.inl h1)
      ·
       by_cases h2 : p < s.size
       ·
        refine .inr ⟨by omega, h2, ?_⟩
        cases h3 : isLet (s[p]'h2) with
        | false => rfl
        | true => exact absurd ⟨by omega, h2, h3⟩ hgo
       ·
        exact .inl (.inr ⟨h1, h2⟩)
     clear hgo
     have hTT : openT s (i + 1) = match mustT s (selfN s p) [62] with | .error x => .error x | .ok q4 => .ok (⟨1, nm, ⟨#[]⟩, acc, Lib.hasPrefix (rs s p) [47, 62], (i : Int)⟩, q4) := by
      unfold openT
      rw [HNM.out]
      dsimp only
      rw [HRA.out, ← hend]
      dsimp only
      cases mustT s (selfN s p) [62] with
      | error x => rfl
      | ok x => rfl
     have hs1 := fun w => rAt s ⟨#[47, 62]⟩ p (Lib.hasPrefix (rs s p) [47, 62]) rfl w (by omega) (by omega) (by decide) (by decide)
     have hs2 := fun w => rAt s ⟨#[62]⟩ (selfN s p) (Lib.hasPrefix (rs s (selfN s p)) [62]) rfl w (by unfold selfN; split <;> omega) (by omega) (by decide) (by decide)
     rcases hbreak with (hb | hb) | ⟨hb0, hb1, hb2⟩
     ·
      have g1 : ((p : Int) == (k : Int)) = true := beq_iff_eq.2 (by omega)
      go_wp2_with fail
      refine (hsk _).mono ?_
      rintro e w3 ⟨rfl, n3, rfl⟩
      go_wp2_with fail
      cases hself : Lib.hasPrefix (rs s p) [47, 62] with
      | true =>
       rw [hself] at hTT hs1
       have hsn : selfN s p = (p + 1) := by unfold selfN; rw [if_pos hself]
       rw [hsn] at hTT hs2
       rw [show ((p + 1 : Nat) : Int) = (p : Int) + 1 by omega] at hs2
       clear hself hsn
       cases hm : Lib.hasPrefix (rs s (p + 1)) [62] with
       | true =>
        rw [hm] at hs2
        unfold mustT at hTT
        rw [if_pos hm] at hTT
        obtain rfl := hTT.symm.trans HR.out
        clear hTT HR HT hend hm
        refine (hs1 _).mono ?_
        rintro e w4 ⟨rfl, n4, rfl⟩
        go_wp2_with fail
        refine (hs2 _).mono ?_
        rintro e w5 ⟨rfl, n5, rfl⟩
        go_wp2_with fail
        refine bodyPost_ret (results60 (Bx88.set6 (((HX1.out.drewN _).far (by omega) _).drewN _) _ _ _ _ _ _) _ rfl rfl rfl) rfl ?_
        exact ⟨_, by first | rfl | simp | (simp; omega), Kd.R_mono (R_six (Kd.R_drewN (R_box (Kd.R_drewN HA.out _) (b := w.heap.size + 1) (j := 4) (Nat.le_refl _) (.bool true)) _) (b := w.heap.size) (by omega) _ _ _ _ _ _) (fun _ _ => trivial), below_set6 (pw_below_drewN ((pw_below_drewN HB.out _).setCell (p := ⟨w.heap.size + 1, 4, none⟩) (by show w.heap.size ≤ w.heap.size + 1; omega) _) _) (Nat.le_refl _) _ _ _ _ _ _⟩
       | false =>
        rw [hm] at hs2
        unfold mustT at hTT
        rw [if_neg (by rw [hm]; simp)] at hTT
        obtain rfl := hTT.symm.trans HR.out
        clear hTT HR HT hend hm
        refine (hs1 _).mono ?_
        rintro e w4 ⟨rfl, n4, rfl⟩
        go_wp2_with fail
        refine (hs2 _).mono ?_
        rintro e w5 ⟨rfl, n5, rfl⟩
        go_wp2_with fail
        refine bodyPost_ret (results60 (Bx88.set6 (((HX1.out.drewN _).far (by omega) _).drewN _) _ _ _ _ _ _) _ rfl rfl rfl) rfl ?_
        exact ⟨by first | rfl | simp | (simp; omega), below_set6 (pw_below_drewN ((pw_below_drewN HB.out _).setCell (p := ⟨w.heap.size + 1, 4, none⟩) (by show w.heap.size ≤ w.heap.size + 1; omega) _) _) (Nat.le_refl _) _ _ _ _ _ _⟩
      | false =>
       rw [hself] at hTT hs1
       have hsn : selfN s p = p := by unfold selfN; rw [if_neg (by rw [hself]; simp)]
       rw [hsn] at hTT hs2
       clear hself hsn
       cases hm : Lib.hasPrefix (rs s p) [62] with
       | true =>
        rw [hm] at hs2
        unfold mustT at hTT
        rw [if_pos hm] at hTT
        obtain rfl := hTT.symm.trans HR.out
        clear hTT HR HT hend hm
        refine (hs1 _).mono ?_
        rintro e w4 ⟨rfl, n4, rfl⟩
        go_wp2_with fail
        refine (hs2 _).mono ?_
        rintro e w5 ⟨rfl, n5, rfl⟩
        go_wp2_with fail
        refine bodyPost_ret (results60 (Bx88.set6 (HX1.out.drewN _) _ _ _ _ _ _) _ rfl rfl rfl) rfl ?_
        exact ⟨_, by first | rfl | simp | (simp; omega), Kd.R_mono (R_six (Kd.R_drewN HA.out _) (b := w.heap.size) (by omega) _ _ _ _ _ _) (fun _ _ => trivial), below_set6 (pw_below_drewN HB.out _) (Nat.le_refl _) _ _ _ _ _ _⟩
       | false =>
        rw [hm] at hs2
        unfold mustT at hTT
        rw [if_neg (by rw [hm]; simp)] at hTT
        obtain rfl := hTT.symm.trans HR.out
        clear hTT HR HT hend hm
        refine (hs1 _).mono ?_
        rintro e w4 ⟨rfl, n4, rfl⟩
        go_wp2_with fail
        refine (hs2 _).mono ?_
        rintro e w5 ⟨rfl, n5, rfl⟩
        go_wp2_with fail
        refine bodyPost_ret (results60 (Bx88.set6 (HX1.out.drewN _) _ _ _ _ _ _) _ rfl rfl rfl) rfl ?_
        exact ⟨by first | rfl | simp | (simp; omega), below_set6 (pw_below_drewN HB.out _) (Nat.le_refl _) _ _ _ _ _ _⟩
     ·
      have hb' : ¬ p < s.size := hb.2
      have hb'' := hb.1
      have g1 : ((p : Int) == (k : Int)) = false := beq_eq_false_iff_ne.2 (by omega)
      have g2 : decide ((s.size : Int) ≤ (p : Int)) = true := decide_eq_true (by omega)
      go_wp2_with fail
      refine (hsk _).mono ?_
      rintro e w3 ⟨rfl, n3, rfl⟩
      go_wp2_with fail
      cases hself : Lib.hasPrefix (rs s p) [47, 62] with
      | true =>
       rw [hself] at hTT hs1
       have hsn : selfN s p = (p + 1) := by unfold selfN; rw [if_pos hself]
       rw [hsn] at hTT hs2
       rw [show ((p + 1 : Nat) : Int) = (p : Int) + 1 by omega] at hs2
       clear hself hsn
       cases hm : Lib.hasPrefix (rs s (p + 1)) [62] with
       | true =>
        rw [hm] at hs2
        unfold mustT at hTT
        rw [if_pos hm] at hTT
        obtain rfl := hTT.symm.trans HR.out
        clear hTT HR HT hend hm
        refine (hs1 _).mono ?_
        rintro e w4 ⟨rfl, n4, rfl⟩
        go_wp2_with fail
        refine (hs2 _).mono ?_
        rintro e w5 ⟨rfl, n5, rfl⟩
        go_wp2_with fail
        refine bodyPost_ret (results60 (Bx88.set6 (((HX1.out.drewN _).far (by omega) _).drewN _) _ _ _ _ _ _) _ rfl rfl rfl) rfl ?_
        exact ⟨_, by first | rfl | simp | (simp; omega), Kd.R_mono (R_six (Kd.R_drewN (R_box (Kd.R_drewN HA.out _) (b := w.heap.size + 1) (j := 4) (Nat.le_refl _) (.bool true)) _) (b := w.heap.size) (by omega) _ _ _ _ _ _) (fun _ _ => trivial), below_set6 (pw_below_drewN ((pw_below_drewN HB.out _).setCell (p := ⟨w.heap.size + 1, 4, none⟩) (by show w.heap.size ≤ w.heap.size + 1; omega) _) _) (Nat.le_refl _) _ _ _ _ _ _⟩
       | false =>
        rw [hm] at hs2
        unfold mustT at hTT
        rw [if_neg (by rw [hm]; simp)] at hTT
        obtain rfl := hTT.symm.trans HR.out
        clear hTT HR HT hend hm
        refine (hs1 _).mono ?_
        rintro e w4 ⟨rfl, n4, rfl⟩
        go_wp2_with fail
        refine (hs2 _).mono ?_
        rintro e w5 ⟨rfl, n5, rfl⟩
        go_wp2_with fail
        refine bodyPost_ret (results60 (Bx88.set6 (((HX1.out.drewN _).far (by omega) _).drewN _) _ _ _ _ _ _) _ rfl rfl rfl) rfl ?_
        exact ⟨by first | rfl | simp | (simp; omega), below_set6 (pw_below_drewN ((pw_below_drewN HB.out _).setCell (p := ⟨w.heap.size + 1, 4, none⟩) (by show w.heap.size ≤ w.heap.size + 1; omega) _) _) (Nat.le_refl _) _ _ _ _ _ _⟩
      | false =>
       rw [hself] at hTT hs1
       have hsn : selfN s p = p := by unfold selfN; rw [if_neg (by rw [hself]; simp)]
       rw [hsn] at hTT hs2
       clear hself hsn
       cases hm : Lib.hasPrefix (rs s p) [62] with
       | true =>
        rw [hm] at hs2
        unfold mustT at hTT
        rw [if_pos hm] at hTT
        obtain rfl := hTT.symm.trans HR.out
        clear hTT HR HT hend hm
        refine (hs1 _).mono ?_
        rintro e w4 ⟨rfl, n4, rfl⟩
        go_wp2_with fail
        refine (hs2 _).mono ?_
        rintro e w5 ⟨rfl, n5, rfl⟩
        go_wp2_with fail
        refine bodyPost_ret (results60 (Bx88.set6 (HX1.out.drewN _) _ _ _ _ _ _) _ rfl rfl rfl) rfl ?_
        exact ⟨_, by first | rfl | simp | (simp; omega), Kd.R_mono (R_six (Kd.R_drewN HA.out _) (b := w.heap.size) (by omega) _ _ _ _ _ _) (fun _ _ => trivial), below_set6 (pw_below_drewN HB.out _) (Nat.le_refl _) _ _ _ _ _ _⟩
       | false =>
        rw [hm] at hs2
        unfold mustT at hTT
        rw [if_neg (by rw [hm]; simp)] at hTT
        obtain rfl := hTT.symm.trans HR.out
        clear hTT HR HT hend hm
        refine (hs1 _).mono ?_
        rintro e w4 ⟨rfl, n4, rfl⟩
        go_wp2_with fail
        refine (hs2 _).mono ?_
        rintro e w5 ⟨rfl, n5, rfl⟩
        go_wp2_with fail
        refine bodyPost_ret (results60 (Bx88.set6 (HX1.out.drewN _) _ _ _ _ _ _) _ rfl rfl rfl) rfl ?_
        exact ⟨by first | rfl | simp | (simp; omega), below_set6 (pw_below_drewN HB.out _) (Nat.le_refl _) _ _ _ _ _ _⟩
     ·
      have g1 : ((p : Int) == (k : Int)) = false := beq_eq_false_iff_ne.2 (by omega)
      have g2 : decide ((s.size : Int) ≤ (p : Int)) = false := decide_eq_false (by omega)
      go_wp2_with fail
      refine (hsk _).mono ?_
      rintro e w3 ⟨rfl, n3, rfl⟩
      go_wp2_with fail
      refine (rLet _ false hb2 _).mono ?_
      rintro e w3 ⟨rfl, n6, rfl⟩
      go_wp2_with fail
      cases hself : Lib.hasPrefix (rs s p) [47, 62] with
      | true =>
       rw [hself] at hTT hs1
       have hsn : selfN s p = (p + 1) := by unfold selfN; rw [if_pos hself]
       rw [hsn] at hTT hs2
       rw [show ((p + 1 : Nat) : Int) = (p : Int) + 1 by omega] at hs2
       clear hself hsn
       cases hm : Lib.hasPrefix (rs s (p + 1)) [62] with
       | true =>
        rw [hm] at hs2
        unfold mustT at hTT
        rw [if_pos hm] at hTT
        obtain rfl := hTT.symm.trans HR.out
        clear hTT HR HT hend hm
        refine (hs1 _).mono ?_
        rintro e w4 ⟨rfl, n4, rfl⟩
        go_wp2_with fail
        refine (hs2 _).mono ?_
        rintro e w5 ⟨rfl, n5, rfl⟩
        go_wp2_with fail
        refine bodyPost_ret (results60 (Bx88.set6 (((HX1.out.drewN _).far (by omega) _).drewN _) _ _ _ _ _ _) _ rfl rfl rfl) rfl ?_
        exact ⟨_, by first | rfl | simp | (simp; omega), Kd.R_mono (R_six (Kd.R_drewN (R_box (Kd.R_drewN HA.out _) (b := w.heap.size + 1) (j := 4) (Nat.le_refl _) (.bool true)) _) (b := w.heap.size) (by omega) _ _ _ _ _ _) (fun _ _ => trivial), below_set6 (pw_below_drewN ((pw_below_drewN HB.out _).setCell (p := ⟨w.heap.size + 1, 4, none⟩) (by show w.heap.size ≤ w.heap.size + 1; omega) _) _) (Nat.le_refl _) _ _ _ _ _ _⟩
       | false =>
        rw [hm] at hs2
        unfold mustT at hTT
        rw [if_neg (by rw [hm]; simp)] at hTT
        obtain rfl := hTT.symm.trans HR.out
        clear hTT HR HT hend hm
        refine (hs1 _).mono ?_
        rintro e w4 ⟨rfl, n4, rfl⟩
        go_wp2_with fail
        refine (hs2 _).mono ?_
        rintro e w5 ⟨rfl, n5, rfl⟩
        go_wp2_with fail
        refine bodyPost_ret (results60 (Bx88.set6 (((HX1.out.drewN _).far (by omega) _).drewN _) _ _ _ _ _ _) _ rfl rfl rfl) rfl ?_
        exact ⟨by first | rfl | simp | (simp; omega), below_set6 (pw_below_drewN ((pw_below_drewN HB.out _).setCell (p := ⟨w.heap.size + 1, 4, none⟩) (by show w.heap.size ≤ w.heap.size + 1; omega) _) _) (Nat.le_refl _) _ _ _ _ _ _⟩
      | false =>
       rw [hself] at hTT hs1
       have hsn : selfN s p = p := by unfold selfN; rw [if_neg (by rw [hself]; simp)]
       rw [hsn] at hTT hs2
       clear hself hsn
       cases hm : Lib.hasPrefix (rs s p) [62] with
       | true =>
        rw [hm] at hs2
        unfold mustT at hTT
        rw [if_pos hm] at hTT
        obtain rfl := hTT.symm.trans HR.out
        clear hTT HR HT hend hm
        refine (hs1 _).mono ?_
        rintro e w4 ⟨rfl, n4, rfl⟩
        go_wp2_with fail
        refine (hs2 _).mono ?_
        rintro e w5 ⟨rfl, n5, rfl⟩
        go_wp2_with fail
        refine bodyPost_ret (results60 (Bx88.set6 (HX1.out.drewN _) _ _ _ _ _ _) _ rfl rfl rfl) rfl ?_
        exact ⟨_, by first | rfl | simp | (simp; omega), Kd.R_mono (R_six (Kd.R_drewN HA.out _) (b := w.heap.size) (by omega) _ _ _ _ _ _) (fun _ _ => trivial), below_set6 (pw_below_drewN HB.out _) (Nat.le_refl _) _ _ _ _ _ _⟩
       | false =>
        rw [hm] at hs2
        unfold mustT at hTT
        rw [if_neg (by rw [hm]; simp)] at hTT
        obtain rfl := hTT.symm.trans HR.out
        clear hTT HR HT hend hm
        refine (hs1 _).mono ?_
        rintro e w4 ⟨rfl, n4, rfl⟩
        go_wp2_with fail
        refine (hs2 _).mono ?_
        rintro e w5 ⟨rfl, n5, rfl⟩
        go_wp2_with fail
        refine bodyPost_ret (results60 (Bx88.set6 (HX1.out.drewN _) _ _ _ _ _ _) _ rfl rfl rfl) rfl ?_
        exact ⟨by first | rfl | simp | (simp; omega), below_set6 (pw_below_drewN HB.out _) (Nat.le_refl _) _ _ _ _ _ _⟩
end Go.Proofs.YtknfpggiigncpaaGreatDoor.C
