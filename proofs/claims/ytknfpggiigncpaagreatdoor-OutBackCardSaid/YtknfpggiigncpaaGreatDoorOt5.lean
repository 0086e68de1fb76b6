/- out.name, walked by hand. -/
import Derived.Test.YtknfpggiigncpaaGreatDoorOt3
import Derived.Test.YtknfpggiigncpaaGreatDoorEx2
import Derived.Test.YtknfpggiigncpaaGreatDoorEx3
import Derived.Test.YtknfpggiigncpaaGreatDoorMapLit
import Derived.Lib.ConvBytes
import Derived.Lib.Hide
import Derived.LoopTactic
set_option linter.unusedVariables false
set_option linter.unusedSimpArgs false
section
namespace Go.Proofs.YtknfpggiigncpaaGreatDoor.E
open Go.RowKit P B
open YtknfpggiigncpaaGreatDoorW.PrintWords
theorem twin_l0 : ∀ (l p : List S24) (a b c d : ByteArray), cntL l ≤ 100000 → (p ++ l).length ≤ 100000 →
  Ev (fun k => remitterref10_Twin.l0 k (p.length : Int) a b (p ++ l) c d p) (c, d, p ++ l)
 | [], p, a, b, c, d, hn, hl => by
  refine ⟨1, fun k hk => ?_⟩
  obtain ⟨k, rfl⟩ : ∃ j, k = j + 1 := ⟨k - 1, by omega⟩
  simp only [remitterref10_Twin.l0]
  rw [if_neg (by simp), List.append_nil]
 | ⟨x, y, q⟩ :: l, p, a, b, c, d, hn, hl => by
  have hL : (p ++ (⟨x, y, q⟩ : S24) :: l).length = p.length + l.length + 1 := by simp; omega
  simp only [cntL] at hn
  obtain ⟨K1, hK1⟩ := twin_l0 q [] x y x y (by omega) (by have := len_cnt q; simp; omega)
  obtain ⟨K2, hK2⟩ := twin_l0 l (p ++ [⟨x, y, q⟩]) a b c d (by omega) (by rw [List.append_assoc]; exact hl)
  refine ⟨K1 + K2 + 2, fun k hk => ?_⟩
  obtain ⟨k, rfl⟩ : ∃ j, k = j + 2 := ⟨k - 2, by omega⟩
  have h1 : remitterref10_Twin.l0 k 0 x y q x y [] = some (x, y, q) := hK1 k (by omega)
  have h3 := hK2 (k + 1) (by omega)
  simp only [List.append_assoc, List.singleton_append, List.length_append, List.length_singleton] at h3
  dsimp only
  rw [remitterref10_Twin.l0, if_pos (by rw [hL]; omega), if_pos (by omega), rd_pre]
  dsimp only
  rw [remitterref10_Twin.f, h1, Option.bind_some, if_pos (by omega), w_succ p.length (by omega), h3]
termination_by l => SizeOf.sizeOf l
theorem twin_ev (v : S24) (h : cntL v.f2 ≤ 1000) : Ev (fun k => remitterref10_Twin.f k v.f0 v.f1 v.f2) (v.f0, v.f1, v.f2) := by
 obtain ⟨K, hK⟩ := twin_l0 v.f2 [] v.f0 v.f1 v.f0 v.f1 (by omega) (by have := len_cnt v.f2; simp; omega)
 refine ⟨K + 1, fun k hk => ?_⟩
 obtain ⟨k, rfl⟩ : ∃ j, k = j + 1 := ⟨k - 1, by omega⟩
 have h1 : remitterref10_Twin.l0 k 0 v.f0 v.f1 v.f2 v.f0 v.f1 [] = some (v.f0, v.f1, v.f2) := hK k (by omega)
 dsimp only
 rw [remitterref10_Twin.f, h1]
theorem same_l0 : ∀ (l p : List S24) (a b c d : ByteArray), cntL l ≤ 100000 → (p ++ l).length ≤ 100000 →
  Ev (fun k => remitterref10_Same.l0 k (p.length : Int) a b (p ++ l) c d (p ++ l)) true
 | [], p, a, b, c, d, hn, hl => by
  refine ⟨1, fun k hk => ?_⟩
  obtain ⟨k, rfl⟩ : ∃ j, k = j + 1 := ⟨k - 1, by omega⟩
  simp only [remitterref10_Same.l0]
  rw [if_neg (by simp)]
 | ⟨x, y, q⟩ :: l, p, a, b, c, d, hn, hl => by
  have hL : (p ++ (⟨x, y, q⟩ : S24) :: l).length = p.length + l.length + 1 := by simp; omega
  simp only [cntL] at hn
  obtain ⟨K1, hK1⟩ := same_l0 q [] x y x y (by omega) (by have := len_cnt q; simp; omega)
  obtain ⟨K2, hK2⟩ := same_l0 l (p ++ [⟨x, y, q⟩]) a b c d (by omega) (by rw [List.append_assoc]; exact hl)
  refine ⟨K1 + K2 + 3, fun k hk => ?_⟩
  obtain ⟨k, rfl⟩ : ∃ j, k = j + 3 := ⟨k - 3, by omega⟩
  have h1 : remitterref10_Same.l0 k 0 x y q x y q = some true := hK1 k (by omega)
  have h3 := hK2 (k + 2) (by omega)
  simp only [List.append_assoc, List.singleton_append, List.length_append, List.length_singleton] at h3
  dsimp only
  rw [remitterref10_Same.l0, if_pos (by rw [hL]; omega), if_pos (by omega), if_pos (by rw [hL]; omega), rd_pre]
  dsimp only
  rw [remitterref10_Same.f, if_pos rfl, if_pos rfl, bne_self_eq_false, remitterref10_Same.j0, if_neg (by simp), h1, Option.bind_some, if_pos rfl, w_succ p.length (by omega), h3]
termination_by l => SizeOf.sizeOf l
theorem same_ev (v : S24) (h : cntL v.f2 ≤ 1000) : Ev (fun k => remitterref10_Same.f k v.f0 v.f1 v.f2 v.f0 v.f1 v.f2) true := by
 obtain ⟨K, hK⟩ := same_l0 v.f2 [] v.f0 v.f1 v.f0 v.f1 (by omega) (by have := len_cnt v.f2; simp; omega)
 refine ⟨K + 2, fun k hk => ?_⟩
 obtain ⟨k, rfl⟩ : ∃ j, k = j + 2 := ⟨k - 2, by omega⟩
 have h1 : remitterref10_Same.l0 k 0 v.f0 v.f1 v.f2 v.f0 v.f1 v.f2 = some true := hK k (by omega)
 dsimp only
 rw [remitterref10_Same.f, if_pos rfl, if_pos rfl, bne_self_eq_false, remitterref10_Same.j0, if_neg (by simp), h1]
def okPre : List UInt8 → Bool
 | [] => true
 | b :: r => letB b && r.all insB
theorem okPre_succ (l : List UInt8) (k : Nat) (h : k < l.length) : okPre (l.take (k + 1)) = (okPre (l.take k) && (if k = 0 then letB l[k] else insB l[k])) := by
 cases l with
 | nil => simp at h
 | cons b r =>
  cases k with
  | zero => simp [okPre]
  | succ k =>
   simp only [List.take_succ_cons, okPre, List.getElem_cons_succ, Nat.succ_ne_zero, if_false]
   have hk : k < r.length := by simpa using h
   rw [List.take_add_one, List.getElem?_eq_getElem hk, Option.toList_some, List.all_append]
   simp [Bool.and_assoc]
theorem nameB_no (l : List UInt8) (k : Nat) (h : okPre (l.take k) = false) : nameB l = false := by
 cases l with
 | nil => rfl
 | cons b r =>
  cases k with
  | zero => simp [okPre] at h
  | succ k =>
   simp only [List.take_succ_cons, okPre] at h
   simp only [nameB]
   cases hb : letB b with
   | false => rfl
   | true =>
    rw [hb, Bool.true_and] at h
    have : r.all insB = false := by
     rw [Bool.eq_false_iff] at h ⊢
     intro ha
     exact h (List.all_eq_true.2 fun x hx => List.all_eq_true.1 ha x (List.mem_of_mem_take hx))
    rw [this]; rfl
theorem nameB_yes (l : List UInt8) (h : okPre l = true) : nameB l = (!decide (l.length = 0) && decide (l.length ≤ 100)) := by
 cases l with
 | nil => rfl
 | cons b r =>
  simp only [okPre] at h
  simp only [nameB]
  rw [h, Bool.true_and, Bool.eq_iff_iff]
  simp
set_option maxHeartbeats 8000000 in
set_option maxRecDepth 100000 in
theorem out_name.calls (s : ByteArray) (w : World) (hs : s.size ≤ 140737488355328) : Calls Tryz.prog 85 #[.string s] w fun e w' => e = .returned (.bool (nameB s.data.toList)) ∧ Below w.heap.size w w' := by
 have hk := kb s
 have hl : s.data.toList.length = s.size := (Lib.size_eq s).symm
 have Hl := Lib.hid hl
 clear hl
 go_enter Tryz.func85, Tryz.ntmps85
 go_wp2_with fail
 go_loopw [9] (fun v9 wr => ∃ k : Nat, v9 = .int .i64 k ∧ k ≤ s.size ∧ Hid (okPre (s.data.toList.take k) = true) ∧ Hid (Below w.heap.size w wr) ∧ w.heap.size < wr.heap.size ∧ Hid (∀ j, j < s.size → wr.cell? ⟨w.heap.size, j, none⟩ = some (.int .u8 (s.data.toList.getD j 0).toNat))) (fun v9 _ => s.size - (intOf v9).toNat)
 case atStart =>
  exact ⟨0, rfl, by omega, rfl, bytes_below (Below.refl _ _) (Nat.le_refl _) _ _, by rw [Lib.bytesWorld_size]; omega, fun j hj => Lib.bytesWorld_cell w 5 s j hj⟩
 case round =>
  obtain ⟨k, rfl, hk8, hv, hB, hsz, hc⟩ := hrel
  by_cases hlt : k < s.size
  ·
   have hcell := hc k hlt
   have hkl : k < s.data.toList.length := by rw [Hl]; exact hlt
   have hgd : s.data.toList.getD k 0 = s.data.toList[k] := by rw [List.getD_eq_getElem?_getD, List.getElem?_eq_getElem hkl]; rfl
   rw [hgd] at hcell
   have hst := okPre_succ s.data.toList k hkl
   rw [hv, Bool.true_and] at hst
   generalize s.data.toList[k] = b at *
   have Hst := Lib.hid hst
   clear hst hgd hkl
   have hb255 := b.toNat_lt
   have hlet : letB b = decide ((97 ≤ b.toNat ∧ b.toNat ≤ 122) ∨ (65 ≤ b.toNat ∧ b.toNat ≤ 90) ∨ b.toNat = 95) := by rw [Bool.eq_iff_iff]; simp [letB, or_assoc]
   have hins : insB b = decide ((97 ≤ b.toNat ∧ b.toNat ≤ 122) ∨ (65 ≤ b.toNat ∧ b.toNat ≤ 90) ∨ b.toNat = 95 ∨ (48 ≤ b.toNat ∧ b.toNat ≤ 57) ∨ b.toNat = 45 ∨ b.toNat = 46) := by rw [Bool.eq_iff_iff]; simp [insB, letB, or_assoc]
   have Hlet := Lib.hid hlet
   have Hins := Lib.hid hins
   clear hlet hins
   generalize b.toNat = c at *
   have key : okPre (s.data.toList.take (k + 1)) = if k = 0 then letB b else insB b := Hst.out
   by_cases h0 : k = 0
   ·
    rw [if_pos h0] at key
    have z0 : ((k : Int) == 0) = true := beq_iff_eq.2 (by omega)
    clear h0
    by_cases g : (97 ≤ c ∧ c ≤ 122) ∨ (65 ≤ c ∧ c ≤ 90) ∨ (c = 95)
    ·
     have hcl : (97 ≤ c ∧ c ≤ 122) ∨ (65 ≤ c ∧ c ≤ 90) ∨ (c = 95) := by omega
     have fact : okPre (s.data.toList.take (k + 1)) = true := by rw [key, Hlet.out]; exact decide_eq_true (by omega)
     have OK := Lib.hid fact
     clear fact key Hst Hlet Hins
     rcases hcl with h | h | h
     all_goals
      first | (have q0 : decide ((97 : Int) ≤ (c : Int)) = true := decide_eq_true (by omega)) | (have q0 : decide ((97 : Int) ≤ (c : Int)) = false := decide_eq_false (by omega))
      first | (have q1 : decide ((c : Int) ≤ 122) = true := decide_eq_true (by omega)) | (have q1 : decide ((c : Int) ≤ 122) = false := decide_eq_false (by omega))
      first | (have q2 : decide ((65 : Int) ≤ (c : Int)) = true := decide_eq_true (by omega)) | (have q2 : decide ((65 : Int) ≤ (c : Int)) = false := decide_eq_false (by omega))
      first | (have q3 : decide ((c : Int) ≤ 90) = true := decide_eq_true (by omega)) | (have q3 : decide ((c : Int) ≤ 90) = false := decide_eq_false (by omega))
      first | (have q4 : decide ((48 : Int) ≤ (c : Int)) = true := decide_eq_true (by omega)) | (have q4 : decide ((48 : Int) ≤ (c : Int)) = false := decide_eq_false (by omega))
      first | (have q5 : decide ((c : Int) ≤ 57) = true := decide_eq_true (by omega)) | (have q5 : decide ((c : Int) ≤ 57) = false := decide_eq_false (by omega))
      first | (have r0 : ((c : Int) == 95) = true := beq_iff_eq.2 (by omega)) | (have r0 : ((c : Int) == 95) = false := beq_eq_false_iff_ne.2 (by omega))
      first | (have t0 : ((c : Int) != 95) = false := by (rw [bne_eq_false_iff_eq]; omega)) | (have t0 : ((c : Int) != 95) = true := bne_iff_ne.2 (by omega))
      first | (have r1 : ((c : Int) == 45) = true := beq_iff_eq.2 (by omega)) | (have r1 : ((c : Int) == 45) = false := beq_eq_false_iff_ne.2 (by omega))
      first | (have t1 : ((c : Int) != 45) = false := by (rw [bne_eq_false_iff_eq]; omega)) | (have t1 : ((c : Int) != 45) = true := bne_iff_ne.2 (by omega))
      first | (have r2 : ((c : Int) == 46) = true := beq_iff_eq.2 (by omega)) | (have r2 : ((c : Int) == 46) = false := beq_eq_false_iff_ne.2 (by omega))
      first | (have t2 : ((c : Int) != 46) = false := by (rw [bne_eq_false_iff_eq]; omega)) | (have t2 : ((c : Int) != 46) = true := bne_iff_ne.2 (by omega))
      go_wp2_with fail
      go_roundw
      case rel => exact ⟨k + 1, rfl, by omega, OK.out, hB, hsz, hc⟩
      case measure => simp [intOf]; omega
    ·
     have hcl : (48 ≤ c ∧ c ≤ 57) ∨ (c = 45) ∨ (c = 46) ∨ (c ≤ 44) ∨ (c = 47) ∨ (58 ≤ c ∧ c ≤ 64) ∨ (91 ≤ c ∧ c ≤ 94) ∨ (c = 96) ∨ (123 ≤ c) := by omega
     have fact : okPre (s.data.toList.take (k + 1)) = false := by rw [key, Hlet.out]; exact decide_eq_false (by omega)
     have NO := Lib.hid (nameB_no _ _ fact)
     clear fact key Hst Hlet Hins
     rcases hcl with h | h | h | h | h | h | h | h | h
     all_goals
      first | (have q0 : decide ((97 : Int) ≤ (c : Int)) = true := decide_eq_true (by omega)) | (have q0 : decide ((97 : Int) ≤ (c : Int)) = false := decide_eq_false (by omega))
      first | (have q1 : decide ((c : Int) ≤ 122) = true := decide_eq_true (by omega)) | (have q1 : decide ((c : Int) ≤ 122) = false := decide_eq_false (by omega))
      first | (have q2 : decide ((65 : Int) ≤ (c : Int)) = true := decide_eq_true (by omega)) | (have q2 : decide ((65 : Int) ≤ (c : Int)) = false := decide_eq_false (by omega))
      first | (have q3 : decide ((c : Int) ≤ 90) = true := decide_eq_true (by omega)) | (have q3 : decide ((c : Int) ≤ 90) = false := decide_eq_false (by omega))
      first | (have q4 : decide ((48 : Int) ≤ (c : Int)) = true := decide_eq_true (by omega)) | (have q4 : decide ((48 : Int) ≤ (c : Int)) = false := decide_eq_false (by omega))
      first | (have q5 : decide ((c : Int) ≤ 57) = true := decide_eq_true (by omega)) | (have q5 : decide ((c : Int) ≤ 57) = false := decide_eq_false (by omega))
      first | (have r0 : ((c : Int) == 95) = true := beq_iff_eq.2 (by omega)) | (have r0 : ((c : Int) == 95) = false := beq_eq_false_iff_ne.2 (by omega))
      first | (have t0 : ((c : Int) != 95) = false := by (rw [bne_eq_false_iff_eq]; omega)) | (have t0 : ((c : Int) != 95) = true := bne_iff_ne.2 (by omega))
      first | (have r1 : ((c : Int) == 45) = true := beq_iff_eq.2 (by omega)) | (have r1 : ((c : Int) == 45) = false := beq_eq_false_iff_ne.2 (by omega))
      first | (have t1 : ((c : Int) != 45) = false := by (rw [bne_eq_false_iff_eq]; omega)) | (have t1 : ((c : Int) != 45) = true := bne_iff_ne.2 (by omega))
      first | (have r2 : ((c : Int) == 46) = true := beq_iff_eq.2 (by omega)) | (have r2 : ((c : Int) == 46) = false := beq_eq_false_iff_ne.2 (by omega))
      first | (have t2 : ((c : Int) != 46) = false := by (rw [bne_eq_false_iff_eq]; omega)) | (have t2 : ((c : Int) != 46) = true := bne_iff_ne.2 (by omega))
      go_wp2_with fail
      go_ret
      rw [NO.out]
      exact ⟨rfl, hB.out⟩
   ·
    rw [if_neg h0] at key
    have z0 : ((k : Int) == 0) = false := beq_eq_false_iff_ne.2 (by omega)
    clear h0
    by_cases g : (97 ≤ c ∧ c ≤ 122) ∨ (65 ≤ c ∧ c ≤ 90) ∨ (c = 95) ∨ (48 ≤ c ∧ c ≤ 57) ∨ (c = 45) ∨ (c = 46)
    ·
     have hcl : (97 ≤ c ∧ c ≤ 122) ∨ (65 ≤ c ∧ c ≤ 90) ∨ (c = 95) ∨ (48 ≤ c ∧ c ≤ 57) ∨ (c = 45) ∨ (c = 46) := by omega
     have fact : okPre (s.data.toList.take (k + 1)) = true := by rw [key, Hins.out]; exact decide_eq_true (by omega)
     have OK := Lib.hid fact
     clear fact key Hst Hlet Hins
     rcases hcl with h | h | h | h | h | h
     all_goals
      first | (have q0 : decide ((97 : Int) ≤ (c : Int)) = true := decide_eq_true (by omega)) | (have q0 : decide ((97 : Int) ≤ (c : Int)) = false := decide_eq_false (by omega))
      first | (have q1 : decide ((c : Int) ≤ 122) = true := decide_eq_true (by omega)) | (have q1 : decide ((c : Int) ≤ 122) = false := decide_eq_false (by omega))
      first | (have q2 : decide ((65 : Int) ≤ (c : Int)) = true := decide_eq_true (by omega)) | (have q2 : decide ((65 : Int) ≤ (c : Int)) = false := decide_eq_false (by omega))
      first | (have q3 : decide ((c : Int) ≤ 90) = true := decide_eq_true (by omega)) | (have q3 : decide ((c : Int) ≤ 90) = false := decide_eq_false (by omega))
      first | (have q4 : decide ((48 : Int) ≤ (c : Int)) = true := decide_eq_true (by omega)) | (have q4 : decide ((48 : Int) ≤ (c : Int)) = false := decide_eq_false (by omega))
      first | (have q5 : decide ((c : Int) ≤ 57) = true := decide_eq_true (by omega)) | (have q5 : decide ((c : Int) ≤ 57) = false := decide_eq_false (by omega))
      first | (have r0 : ((c : Int) == 95) = true := beq_iff_eq.2 (by omega)) | (have r0 : ((c : Int) == 95) = false := beq_eq_false_iff_ne.2 (by omega))
      first | (have t0 : ((c : Int) != 95) = false := by (rw [bne_eq_false_iff_eq]; omega)) | (have t0 : ((c : Int) != 95) = true := bne_iff_ne.2 (by omega))
      first | (have r1 : ((c : Int) == 45) = true := beq_iff_eq.2 (by omega)) | (have r1 : ((c : Int) == 45) = false := beq_eq_false_iff_ne.2 (by omega))
      first | (have t1 : ((c : Int) != 45) = false := by (rw [bne_eq_false_iff_eq]; omega)) | (have t1 : ((c : Int) != 45) = true := bne_iff_ne.2 (by omega))
      first | (have r2 : ((c : Int) == 46) = true := beq_iff_eq.2 (by omega)) | (have r2 : ((c : Int) == 46) = false := beq_eq_false_iff_ne.2 (by omega))
      first | (have t2 : ((c : Int) != 46) = false := by (rw [bne_eq_false_iff_eq]; omega)) | (have t2 : ((c : Int) != 46) = true := bne_iff_ne.2 (by omega))
      go_wp2_with fail
      go_roundw
      case rel => exact ⟨k + 1, rfl, by omega, OK.out, hB, hsz, hc⟩
      case measure => simp [intOf]; omega
    ·
     have hcl : (c ≤ 44) ∨ (c = 47) ∨ (58 ≤ c ∧ c ≤ 64) ∨ (91 ≤ c ∧ c ≤ 94) ∨ (c = 96) ∨ (123 ≤ c) := by omega
     have fact : okPre (s.data.toList.take (k + 1)) = false := by rw [key, Hins.out]; exact decide_eq_false (by omega)
     have NO := Lib.hid (nameB_no _ _ fact)
     clear fact key Hst Hlet Hins
     rcases hcl with h | h | h | h | h | h
     all_goals
      first | (have q0 : decide ((97 : Int) ≤ (c : Int)) = true := decide_eq_true (by omega)) | (have q0 : decide ((97 : Int) ≤ (c : Int)) = false := decide_eq_false (by omega))
      first | (have q1 : decide ((c : Int) ≤ 122) = true := decide_eq_true (by omega)) | (have q1 : decide ((c : Int) ≤ 122) = false := decide_eq_false (by omega))
      first | (have q2 : decide ((65 : Int) ≤ (c : Int)) = true := decide_eq_true (by omega)) | (have q2 : decide ((65 : Int) ≤ (c : Int)) = false := decide_eq_false (by omega))
      first | (have q3 : decide ((c : Int) ≤ 90) = true := decide_eq_true (by omega)) | (have q3 : decide ((c : Int) ≤ 90) = false := decide_eq_false (by omega))
      first | (have q4 : decide ((48 : Int) ≤ (c : Int)) = true := decide_eq_true (by omega)) | (have q4 : decide ((48 : Int) ≤ (c : Int)) = false := decide_eq_false (by omega))
      first | (have q5 : decide ((c : Int) ≤ 57) = true := decide_eq_true (by omega)) | (have q5 : decide ((c : Int) ≤ 57) = false := decide_eq_false (by omega))
      first | (have r0 : ((c : Int) == 95) = true := beq_iff_eq.2 (by omega)) | (have r0 : ((c : Int) == 95) = false := beq_eq_false_iff_ne.2 (by omega))
      first | (have t0 : ((c : Int) != 95) = false := by (rw [bne_eq_false_iff_eq]; omega)) | (have t0 : ((c : Int) != 95) = true := bne_iff_ne.2 (by omega))
      first | (have r1 : ((c : Int) == 45) = true := beq_iff_eq.2 (by omega)) | (have r1 : ((c : Int) == 45) = false := beq_eq_false_iff_ne.2 (by omega))
      first | (have t1 : ((c : Int) != 45) = false := by (rw [bne_eq_false_iff_eq]; omega)) | (have t1 : ((c : Int) != 45) = true := bne_iff_ne.2 (by omega))
      first | (have r2 : ((c : Int) == 46) = true := beq_iff_eq.2 (by omega)) | (have r2 : ((c : Int) == 46) = false := beq_eq_false_iff_ne.2 (by omega))
      first | (have t2 : ((c : Int) != 46) = false := by (rw [bne_eq_false_iff_eq]; omega)) | (have t2 : ((c : Int) != 46) = true := bne_iff_ne.2 (by omega))
      go_wp2_with fail
      go_ret
      rw [NO.out]
      exact ⟨rfl, hB.out⟩
  ·
   have hke : k = s.size := by omega
   subst hke
   have hy : okPre s.data.toList = true := by have := hv.out; rwa [List.take_of_length_le (by rw [Hl]; omega)] at this
   have HY := Lib.hid (nameB_yes _ hy)
   clear hy
   by_cases h0 : s.size = 0
   ·
    have hne : s.toList.isEmpty = true := by rw [Lib.toList_data, List.isEmpty_iff, ← List.length_eq_zero_iff, Hl]; exact h0
    go_wp2_with fail
    go_ret
    rw [HY.out, Hl, h0]
    exact ⟨rfl, hB.out⟩
   ·
    have hne : s.toList.isEmpty = false := by
     rw [Lib.toList_data]
     cases h : s.data.toList with
     | nil => exact absurd (by rw [Lib.size_eq, h]; rfl) h0
     | cons _ _ => rfl
    by_cases h1 : s.size ≤ 100
    ·
     have q : decide ((s.size : Int) ≤ 100) = true := decide_eq_true (by omega)
     go_wp2_with fail
     go_ret
     rw [HY.out, Hl, decide_eq_false h0, decide_eq_true h1]
     exact ⟨rfl, hB.out⟩
    ·
     have q : decide ((s.size : Int) ≤ 100) = false := decide_eq_false (by omega)
     go_wp2_with fail
     go_ret
     rw [HY.out, Hl, decide_eq_false h0, decide_eq_false h1]
     exact ⟨rfl, hB.out⟩
end Go.Proofs.YtknfpggiigncpaaGreatDoor.E
end
