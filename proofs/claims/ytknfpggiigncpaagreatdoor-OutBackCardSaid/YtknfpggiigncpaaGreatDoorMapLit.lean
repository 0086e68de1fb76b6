/- Map literals: a map that a call makes, fills key by key, and looks up: over any program. -/
import Derived.Test.YtknfpggiigncpaaGreatDoorAx1
import Derived.Test.YtknfpggiigncpaaGreatDoorShelf
import Derived.WalkKit
import Derived.Lib.ConvBytes
import Derived.Lib.Hide
import Derived.LoopTactic
set_option maxHeartbeats 2000000
set_option maxRecDepth 100000
set_option linter.unusedVariables false
set_option linter.unusedSimpArgs false
section
namespace Go.Proofs.YtknfpggiigncpaaGreatDoor.P
open Go.RowKit YtknfpggiigncpaaGreatDoorW.PrintWords
theorem low_facts : ∀ b : Fin 256, ∃ m : Nat, bits .or .u8 ((b.val : Nat) : Int) 32 = (m : Int) ∧ m ≤ 255 ∧ ((97 ≤ m ∧ m ≤ 122) ↔ ((97 ≤ b.val ∧ b.val ≤ 122) ∨ (65 ≤ b.val ∧ b.val ≤ 90))) ∧ ((97 ≤ b.val ∧ b.val ≤ 122) → m = b.val) ∧ ((65 ≤ b.val ∧ b.val ≤ 90) → m = b.val + 32) := by
 intro b
 refine ⟨(bits .or .u8 ((b.val : Nat) : Int) 32).toNat, ?_⟩
 revert b
 decide
theorem low_any (b : UInt8) : ∃ m : Nat, m ≤ 255 ∧ ((97 ≤ m ∧ m ≤ 122) ↔ ((97 ≤ b.toNat ∧ b.toNat ≤ 122) ∨ (65 ≤ b.toNat ∧ b.toNat ≤ 90))) ∧ ((97 ≤ b.toNat ∧ b.toNat ≤ 122) → m = b.toNat) ∧ ((65 ≤ b.toNat ∧ b.toNat ≤ 90) → m = b.toNat + 32) ∧
  ∀ w : World, Calls Tryz.prog 181 #[.int .u8 (b.toNat : Int)] w fun e w' => e = .returned (.int .u8 (m : Int)) ∧ Drawn0 w w' := by
 obtain ⟨m, h1, h2, h3, h4, h5⟩ := low_facts ⟨b.toNat, b.toNat_lt⟩
 exact ⟨m, h2, h3, h4, h5, fun w => A.strconv_lower.calls _ _ w (by unfold A.strconv_lower.f; rw [h1])⟩
theorem numV_step (base : Nat) (l : List UInt8) (k n : Nat) (h : k < l.length) : numV base (l.drop k) n = (digV base l[k]).bind fun d => numV base (l.drop (k + 1)) (n * base + d) := by
 rw [List.drop_eq_getElem_cons h]
 rfl
theorem digD_num (b : UInt8) (h : 48 ≤ b.toNat ∧ b.toNat ≤ 57) : digD b = b.toNat - 48 := by
 unfold digD
 rw [if_pos h]
theorem digD_let (b : UInt8) (m : Nat) (h1 : ¬ (48 ≤ b.toNat ∧ b.toNat ≤ 57)) (hm : 97 ≤ m ∧ m ≤ 122) (h2 : (97 ≤ m ∧ m ≤ 122) ↔ ((97 ≤ b.toNat ∧ b.toNat ≤ 122) ∨ (65 ≤ b.toNat ∧ b.toNat ≤ 90)))
  (h3 : (97 ≤ b.toNat ∧ b.toNat ≤ 122) → m = b.toNat) (h4 : (65 ≤ b.toNat ∧ b.toNat ≤ 90) → m = b.toNat + 32) : digD b = m - 87 := by
 unfold digD
 rw [if_neg h1]
 rcases h2.1 hm with h | h
 ·
  rw [if_pos h, h3 h]
 ·
  rw [if_neg (by omega), if_pos h, h4 h]
  omega
theorem digD_other (b : UInt8) (m : Nat) (h1 : ¬ (48 ≤ b.toNat ∧ b.toNat ≤ 57)) (hm : ¬ (97 ≤ m ∧ m ≤ 122)) (h2 : (97 ≤ m ∧ m ≤ 122) ↔ ((97 ≤ b.toNat ∧ b.toNat ≤ 122) ∨ (65 ≤ b.toNat ∧ b.toNat ≤ 90))) : digD b = 99 := by
 have h5 : ¬ ((97 ≤ b.toNat ∧ b.toNat ≤ 122) ∨ (65 ≤ b.toNat ∧ b.toNat ≤ 90)) := fun h => hm (h2.2 h)
 unfold digD
 rw [if_neg h1, if_neg (fun h => h5 (.inl h)), if_neg (fun h => h5 (.inr h))]
def PuRes (o : Option Nat) (e : Ending) : Prop := match o with
 | some n => e = .returned (.tuple #[.int .u64 n, .nilIface])
 | none => ∃ (n : Int), e = .returned (.tuple #[.int .u64 n, .iface 240 (.int .i64 2)])
theorem kb (s : ByteArray) (w : World) : (convert 9 63 (.string s)).run Tryz.prog w = .ok (.slice (some ⟨w.heap.size, 0, none⟩) s.size (grownCap w s.size 0 5)) (Lib.bytesWorld w 5 s) := Lib.run_convert_string_bytes w 9 63 5 s Tryz.underlying9 Tryz.underlying63 Tryz.underlying5
theorem parse10 (s : ByteArray) (w : World) (h0 : 0 < s.size) (h8 : s.size ≤ 8) :
  Calls Tryz.prog 171 #[.string s, .int .i64 10, .int .i64 32] w fun e w' => PuRes (numV 10 s.data.toList 0) e ∧ Below w.heap.size w w' := by
 have hne : s.toList.isEmpty = false := by
  rw [Lib.toList_data]
  cases h : s.data.toList with
  | nil => exact absurd (by rw [Lib.size_eq, h]; rfl) (Nat.ne_of_gt h0)
  | cons _ _ => rfl
 have hk := kb s
 have hl : s.data.toList.length = s.size := (Lib.size_eq s).symm
 have Hl := Lib.hid hl
 clear hl
 go_enter Tryz.func171, Tryz.ntmps171
 go_wp2_with fail
 go_loopw [12, 13, 101] (fun v12 v13 v101 wr => ∃ (k n : Nat) (z : Int), v12 = .bool false ∧ v13 = .int .u64 z ∧ Hid (z = (n : Int)) ∧ 0 ≤ z ∧ v101 = .int .i64 k ∧ k ≤ s.size ∧ Hid (n < 10 ^ k) ∧ Hid (numV 10 (s.data.toList.drop k) n = numV 10 s.data.toList 0) ∧ Hid (Below w.heap.size w wr) ∧ w.heap.size < wr.heap.size ∧ Hid (∀ j, j < s.size → wr.cell? ⟨w.heap.size, j, none⟩ = some (.int .u8 (s.data.toList.getD j 0).toNat))) (fun _ _ i _ => s.size - (intOf i).toNat)
 case atStart =>
  refine ⟨0, 0, 0, rfl, rfl, rfl, by omega, rfl, by omega, by show (0 : Nat) < 10 ^ 0; decide, rfl, bytes_below (Below.refl _ _) (Nat.le_refl _) _ _, by rw [Lib.bytesWorld_size]; omega, fun j hj => Lib.bytesWorld_cell w 5 s j hj⟩
 case round =>
  obtain ⟨k, n, z, rfl, rfl, Hz, hz0, rfl, hk8, hn, hv, hB, hsz, hc⟩ := hrel
  by_cases hlt : k < s.size
  ·
   have hcell := hc k hlt
   have hkl : k < s.data.toList.length := by rw [Hl]; exact hlt
   have hgd : s.data.toList.getD k 0 = s.data.toList[k] := by rw [List.getD_eq_getElem?_getD, List.getElem?_eq_getElem hkl]; rfl
   rw [hgd] at hcell
   have hst := numV_step 10 s.data.toList k n hkl
   generalize s.data.toList[k] = b at *
   have hn7 : n < 10 ^ 7 := Nat.lt_of_lt_of_le hn (Nat.pow_le_pow_right (by omega) (by omega))
   have hn7' : n < 10000000 := Nat.lt_of_lt_of_le hn7 (by decide)
   have hz7 : z < 10000000 := by rw [Hz.out]; omega
   clear hn7 hgd hn7' hkl
   have hb255 := b.toNat_lt
   have Hst := Lib.hid hst
   clear hst
   obtain ⟨m, hm1, hm2, hm3, hm4, hm5⟩ := low_any b
   have hfail : ¬ digD b < 10 → numV 10 s.data.toList 0 = none := fun h => by rw [← hv, Hst, digV, if_neg h]; rfl
   have Hfail := Lib.hid hfail
   clear hfail
   have Hm5 := Lib.hid hm5
   clear hm5
   by_cases hnum : 48 ≤ b.toNat ∧ b.toNat ≤ 57
   ·
    have Hd := Lib.hid (digD_num b hnum)
    clear hm2 hm3 hm4
    generalize b.toNat = c at *
    obtain ⟨hn1, hn2⟩ := hnum
    have b1 : ((c : Int) == 95) = false := by rw [beq_eq_false_iff_ne]; omega
    go_wp2_with fail
    go_roundw
    case rel =>
     refine ⟨k + 1, n * 10 + (c - 48), z * 10 + ((c : Int) - 48), rfl, rfl, ?_, by omega, by go_num, by omega, ?_, ?_, hB, hsz, hc⟩
     ·
      show z * 10 + ((c : Int) - 48) = ((n * 10 + (c - 48) : Nat) : Int)
      rw [Hz.out]
      omega
     ·
      show n * 10 + (c - 48) < 10 ^ (k + 1)
      rw [Nat.pow_succ]
      have h' : n < 10 ^ k := hn
      omega
     ·
      rw [← hv, Hst, digV, Hd, if_pos (by omega)]
      rfl
    case measure => simp [intOf]; omega
   ·
    by_cases hlet : 97 ≤ m ∧ m ≤ 122
    ·
     have Hd := Lib.hid (digD_let b m hnum hlet hm2 hm3 hm4)
     obtain ⟨hl1, hl2⟩ := hlet
     have hne95 : b.toNat ≠ 95 := fun h => by have := hm2.1 ⟨hl1, hl2⟩; omega
     clear hm2 hm3 hm4
     generalize b.toNat = c at *
     have b1 : ((c : Int) == 95) = false := by rw [beq_eq_false_iff_ne]; omega
     by_cases hdb : m - 87 < 10
     ·
      omega
     ·
      go_wp2_with ((go_at_call 181; refine (Hm5 _).mono ?_; rintro e w1 ⟨rfl, ⟨q1, rfl⟩⟩))
      all_goals go_ret2
      all_goals refine ⟨?_, by repeat (first | exact hB | apply pw_below_drewN)⟩
      all_goals rw [Hfail.out (by rw [Hd]; omega)]
      all_goals exact ⟨_, rfl⟩
    ·
     have Hd := Lib.hid (digD_other b m hnum hlet hm2)
     clear hm2 hm3 hm4
     generalize b.toNat = c at *
     by_cases h95 : c = 95
     ·
      subst h95
      go_wp2_with ((go_at_call 181; refine (Hm5 _).mono ?_; rintro e w1 ⟨rfl, ⟨q1, rfl⟩⟩))
      all_goals go_ret2
      all_goals refine ⟨?_, by repeat (first | exact hB | apply pw_below_drewN)⟩
      all_goals rw [Hfail.out (by rw [Hd]; omega)]
      all_goals exact ⟨_, rfl⟩
     ·
      have b1 : ((c : Int) == 95) = false := by rw [beq_eq_false_iff_ne]; omega
      go_wp2_with ((go_at_call 181; refine (Hm5 _).mono ?_; rintro e w1 ⟨rfl, ⟨q1, rfl⟩⟩))
      all_goals go_ret2
      all_goals refine ⟨?_, by repeat (first | exact hB | apply pw_below_drewN)⟩
      all_goals rw [Hfail.out (by rw [Hd]; omega)]
      all_goals exact ⟨_, rfl⟩
  ·
   obtain rfl : k = s.size := by omega
   rw [List.drop_eq_nil_of_le (by rw [Hl]; omega)] at hv
   go_wp2_with fail
   go_ret2
   refine ⟨?_, hB⟩
   rw [← hv]
   show _ = _
   rw [← Hz.out]
   rfl
theorem parse16 (s : ByteArray) (w : World) (h0 : 0 < s.size) (h8 : s.size ≤ 8) :
  Calls Tryz.prog 171 #[.string s, .int .i64 16, .int .i64 32] w fun e w' => PuRes (numV 16 s.data.toList 0) e ∧ Below w.heap.size w w' := by
 have hne : s.toList.isEmpty = false := by
  rw [Lib.toList_data]
  cases h : s.data.toList with
  | nil => exact absurd (by rw [Lib.size_eq, h]; rfl) (Nat.ne_of_gt h0)
  | cons _ _ => rfl
 have hk := kb s
 have hl : s.data.toList.length = s.size := (Lib.size_eq s).symm
 have Hl := Lib.hid hl
 clear hl
 go_enter Tryz.func171, Tryz.ntmps171
 go_wp2_with fail
 go_loopw [12, 13, 101] (fun v12 v13 v101 wr => ∃ (k n : Nat) (z : Int), v12 = .bool false ∧ v13 = .int .u64 z ∧ Hid (z = (n : Int)) ∧ 0 ≤ z ∧ v101 = .int .i64 k ∧ k ≤ s.size ∧ Hid (n < 16 ^ k) ∧ Hid (numV 16 (s.data.toList.drop k) n = numV 16 s.data.toList 0) ∧ Hid (Below w.heap.size w wr) ∧ w.heap.size < wr.heap.size ∧ Hid (∀ j, j < s.size → wr.cell? ⟨w.heap.size, j, none⟩ = some (.int .u8 (s.data.toList.getD j 0).toNat))) (fun _ _ i _ => s.size - (intOf i).toNat)
 case atStart =>
  refine ⟨0, 0, 0, rfl, rfl, rfl, by omega, rfl, by omega, by show (0 : Nat) < 16 ^ 0; decide, rfl, bytes_below (Below.refl _ _) (Nat.le_refl _) _ _, by rw [Lib.bytesWorld_size]; omega, fun j hj => Lib.bytesWorld_cell w 5 s j hj⟩
 case round =>
  obtain ⟨k, n, z, rfl, rfl, Hz, hz0, rfl, hk8, hn, hv, hB, hsz, hc⟩ := hrel
  by_cases hlt : k < s.size
  ·
   have hcell := hc k hlt
   have hkl : k < s.data.toList.length := by rw [Hl]; exact hlt
   have hgd : s.data.toList.getD k 0 = s.data.toList[k] := by rw [List.getD_eq_getElem?_getD, List.getElem?_eq_getElem hkl]; rfl
   rw [hgd] at hcell
   have hst := numV_step 16 s.data.toList k n hkl
   generalize s.data.toList[k] = b at *
   have hn7 : n < 16 ^ 7 := Nat.lt_of_lt_of_le hn (Nat.pow_le_pow_right (by omega) (by omega))
   have hn7' : n < 268435456 := Nat.lt_of_lt_of_le hn7 (by decide)
   have hz7 : z < 268435456 := by rw [Hz.out]; omega
   clear hn7 hgd hn7' hkl
   have hb255 := b.toNat_lt
   have Hst := Lib.hid hst
   clear hst
   obtain ⟨m, hm1, hm2, hm3, hm4, hm5⟩ := low_any b
   have hfail : ¬ digD b < 16 → numV 16 s.data.toList 0 = none := fun h => by rw [← hv, Hst, digV, if_neg h]; rfl
   have Hfail := Lib.hid hfail
   clear hfail
   have Hm5 := Lib.hid hm5
   clear hm5
   by_cases hnum : 48 ≤ b.toNat ∧ b.toNat ≤ 57
   ·
    have Hd := Lib.hid (digD_num b hnum)
    clear hm2 hm3 hm4
    generalize b.toNat = c at *
    obtain ⟨hn1, hn2⟩ := hnum
    have b1 : ((c : Int) == 95) = false := by rw [beq_eq_false_iff_ne]; omega
    go_wp2_with fail
    go_roundw
    case rel =>
     refine ⟨k + 1, n * 16 + (c - 48), z * 16 + ((c : Int) - 48), rfl, rfl, ?_, by omega, by go_num, by omega, ?_, ?_, hB, hsz, hc⟩
     ·
      show z * 16 + ((c : Int) - 48) = ((n * 16 + (c - 48) : Nat) : Int)
      rw [Hz.out]
      omega
     ·
      show n * 16 + (c - 48) < 16 ^ (k + 1)
      rw [Nat.pow_succ]
      have h' : n < 16 ^ k := hn
      omega
     ·
      rw [← hv, Hst, digV, Hd, if_pos (by omega)]
      rfl
    case measure => simp [intOf]; omega
   ·
    by_cases hlet : 97 ≤ m ∧ m ≤ 122
    ·
     have Hd := Lib.hid (digD_let b m hnum hlet hm2 hm3 hm4)
     obtain ⟨hl1, hl2⟩ := hlet
     have hne95 : b.toNat ≠ 95 := fun h => by have := hm2.1 ⟨hl1, hl2⟩; omega
     clear hm2 hm3 hm4
     generalize b.toNat = c at *
     have b1 : ((c : Int) == 95) = false := by rw [beq_eq_false_iff_ne]; omega
     by_cases hdb : m - 87 < 16
     ·
      by_cases h48 : 48 ≤ c
      ·
       go_wp2_with ((go_at_call 181; refine (Hm5 _).mono ?_; rintro e w1 ⟨rfl, ⟨q1, rfl⟩⟩))
       go_roundw
       case rel =>
        refine ⟨k + 1, n * 16 + (m - 87), z * 16 + ((m : Int) - 97 + 10), rfl, rfl, ?_, by omega, by go_num, by omega, ?_, ?_, by repeat (first | exact hB | apply pw_below_drewN), by simpa using hsz, fun j hj => by simpa using hc.out j hj⟩
        ·
         show z * 16 + ((m : Int) - 97 + 10) = ((n * 16 + (m - 87) : Nat) : Int)
         rw [Hz.out]
         omega
        ·
         show n * 16 + (m - 87) < 16 ^ (k + 1)
         rw [Nat.pow_succ]
         have h' : n < 16 ^ k := hn
         omega
        ·
         rw [← hv, Hst, digV, Hd, if_pos hdb]
         rfl
       case measure => simp [intOf]; omega
      ·
       go_wp2_with ((go_at_call 181; refine (Hm5 _).mono ?_; rintro e w1 ⟨rfl, ⟨q1, rfl⟩⟩))
       go_roundw
       case rel =>
        refine ⟨k + 1, n * 16 + (m - 87), z * 16 + ((m : Int) - 97 + 10), rfl, rfl, ?_, by omega, by go_num, by omega, ?_, ?_, by repeat (first | exact hB | apply pw_below_drewN), by simpa using hsz, fun j hj => by simpa using hc.out j hj⟩
        ·
         show z * 16 + ((m : Int) - 97 + 10) = ((n * 16 + (m - 87) : Nat) : Int)
         rw [Hz.out]
         omega
        ·
         show n * 16 + (m - 87) < 16 ^ (k + 1)
         rw [Nat.pow_succ]
         have h' : n < 16 ^ k := hn
         omega
        ·
         rw [← hv, Hst, digV, Hd, if_pos hdb]
         rfl
       case measure => simp [intOf]; omega
     ·
      go_wp2_with ((go_at_call 181; refine (Hm5 _).mono ?_; rintro e w1 ⟨rfl, ⟨q1, rfl⟩⟩))
      all_goals go_ret2
      all_goals refine ⟨?_, by repeat (first | exact hB | apply pw_below_drewN)⟩
      all_goals rw [Hfail.out (by rw [Hd]; omega)]
      all_goals exact ⟨_, rfl⟩
    ·
     have Hd := Lib.hid (digD_other b m hnum hlet hm2)
     clear hm2 hm3 hm4
     generalize b.toNat = c at *
     by_cases h95 : c = 95
     ·
      subst h95
      go_wp2_with ((go_at_call 181; refine (Hm5 _).mono ?_; rintro e w1 ⟨rfl, ⟨q1, rfl⟩⟩))
      all_goals go_ret2
      all_goals refine ⟨?_, by repeat (first | exact hB | apply pw_below_drewN)⟩
      all_goals rw [Hfail.out (by rw [Hd]; omega)]
      all_goals exact ⟨_, rfl⟩
     ·
      have b1 : ((c : Int) == 95) = false := by rw [beq_eq_false_iff_ne]; omega
      go_wp2_with ((go_at_call 181; refine (Hm5 _).mono ?_; rintro e w1 ⟨rfl, ⟨q1, rfl⟩⟩))
      all_goals go_ret2
      all_goals refine ⟨?_, by repeat (first | exact hB | apply pw_below_drewN)⟩
      all_goals rw [Hfail.out (by rw [Hd]; omega)]
      all_goals exact ⟨_, rfl⟩
  ·
   obtain rfl : k = s.size := by omega
   rw [List.drop_eq_nil_of_le (by rw [Hl]; omega)] at hv
   go_wp2_with fail
   go_ret2
   refine ⟨?_, hB⟩
   rw [← hv]
   show _ = _
   rw [← Hz.out]
   rfl
def PuOut (o : Option Nat) (e : Ending) : Prop := match o with
 | some n => e = .returned (.tuple #[.int .u64 n, .nilIface])
 | none => ∃ (n : Int) (v : Value), e = .returned (.tuple #[.int .u64 n, .iface 242 v])
theorem pu10 (s : ByteArray) (w : World) (h0 : 0 < s.size) (h8 : s.size ≤ 8) (hG : Glob w) :
  Calls Tryz.prog 158 #[.string s, .int .i64 10, .int .i64 32] w fun e w' => PuOut (numV 10 s.data.toList 0) e ∧ Below w.heap.size w w' := by
 have hcon := parse10 s w h0 h8
 generalize numV 10 s.data.toList 0 = o at *
 go_enter Tryz.func158, Tryz.ntmps158
 cases o with
 | some n =>
  go_wp2_with fail
  refine hcon.mono ?_
  rintro e w1 ⟨rfl, hb⟩
  go_wp2_with fail
  go_ret2
  exact ⟨rfl, hb⟩
 | none =>
  go_wp2_with fail
  refine hcon.mono ?_
  rintro e w1 ⟨⟨n, rfl⟩, hb⟩
  obtain ⟨ev, hv, hev⟩ := (hG.below hb).errSyntax
  have Hc := Lib.hid (Any.strconv_toError_syntax Tryz.lays245 ⟨#[80, 97, 114, 115, 101, 85, 105, 110, 116]⟩ s 10 32 ev w1 (by omega) hv hev)
  clear hv hev
  go_wp2_with fail
  refine (Hc.out).mono ?_
  rintro e w2 ⟨m, rfl, -, -, hb2⟩
  go_wp2_with fail
  go_ret2
  exact ⟨⟨_, _, rfl⟩, hb.trans (hb2.mono (by have := hb.size; omega))⟩
theorem pu16 (s : ByteArray) (w : World) (h0 : 0 < s.size) (h8 : s.size ≤ 8) (hG : Glob w) :
  Calls Tryz.prog 158 #[.string s, .int .i64 16, .int .i64 32] w fun e w' => PuOut (numV 16 s.data.toList 0) e ∧ Below w.heap.size w w' := by
 have hcon := parse16 s w h0 h8
 generalize numV 16 s.data.toList 0 = o at *
 go_enter Tryz.func158, Tryz.ntmps158
 cases o with
 | some n =>
  go_wp2_with fail
  refine hcon.mono ?_
  rintro e w1 ⟨rfl, hb⟩
  go_wp2_with fail
  go_ret2
  exact ⟨rfl, hb⟩
 | none =>
  go_wp2_with fail
  refine hcon.mono ?_
  rintro e w1 ⟨⟨n, rfl⟩, hb⟩
  obtain ⟨ev, hv, hev⟩ := (hG.below hb).errSyntax
  have Hc := Lib.hid (Any.strconv_toError_syntax Tryz.lays245 ⟨#[80, 97, 114, 115, 101, 85, 105, 110, 116]⟩ s 16 32 ev w1 (by omega) hv hev)
  clear hv hev
  go_wp2_with fail
  refine (Hc.out).mono ?_
  rintro e w2 ⟨m, rfl, -, -, hb2⟩
  go_wp2_with fail
  go_ret2
  exact ⟨⟨_, _, rfl⟩, hb.trans (hb2.mono (by have := hb.size; omega))⟩
end Go.Proofs.YtknfpggiigncpaaGreatDoor.P
end
section
namespace Go.Proofs.MapLit
structure KeyAs (κ : Type) [DecidableEq κ] (kind : TypeDesc) (enc : κ → Value) : Prop where
 same : ∀ a b, Instr.sameNow kind (enc a) (enc b) = some (decide (a = b))
 check : ∀ (P : Program) (e : Bool) (t : TypeId) (a : κ) (w : World), P.underlying t = some kind → (Instr.checkKey e 10000 t (enc a)).run P w = .ok () w
theorem keyAs_string : KeyAs ByteArray .string Value.string where
 same a b := by
  simp only [Instr.sameNow, Option.some.injEq]
  rw [Bool.eq_iff_iff, decide_eq_true_eq]
  show (a.data == b.data) = true ↔ _
  rw [beq_iff_eq]
  exact ⟨fun h => ByteArray.ext h, fun h => h ▸ rfl⟩
 check P e t a w h := by
  generalize hn : 9999 = n
  have e1 : (10000 : Nat) = n + 1 := by omega
  rw [e1]
  simp [Instr.checkKey, run_underlying h]
section
variable {κ : Type} [DecidableEq κ] {kind : TypeDesc} {enc : κ → Value}
def entries (enc : κ → Value) (kvs : List (κ × Value)) : List MapEntry := kvs.zipIdx.map fun x => { key := enc x.1.1, val := x.1.2, born := x.2 }
def mget (kvs : List (κ × Value)) (k : κ) : Option Value := (kvs.find? fun x => decide (k = x.1)).map (·.2)
theorem findNow_from (K : KeyAs κ kind enc) (k : κ) : ∀ (kvs : List (κ × Value)) (b i : Nat),
  (Instr.findNow kind (enc k) ((kvs.zipIdx b).map fun x => { key := enc x.1.1, val := x.1.2, born := x.2 }) i).map (·.map (·.2)) = some (mget kvs k) ∧
  ((∀ x ∈ kvs, x.1 ≠ k) → Instr.findNow kind (enc k) ((kvs.zipIdx b).map fun x => { key := enc x.1.1, val := x.1.2, born := x.2 }) i = some none)
 | [], _, _ => ⟨rfl, fun _ => rfl⟩
 | x :: r, b, i => by
  simp only [List.zipIdx_cons, List.map_cons, Instr.findNow, K.same]
  obtain ⟨ih1, ih2⟩ := findNow_from K k r (b + 1) (i + 1)
  by_cases h : k = x.1
  ·
   refine ⟨?_, fun hn => absurd h.symm (hn x (by simp))⟩
   simp [mget, h]
  ·
   simp only [h, decide_false]
   refine ⟨?_, fun hn => ih2 fun y hy => hn y (List.mem_cons_of_mem _ hy)⟩
   rw [ih1]
   simp [mget, h]
theorem run_find (K : KeyAs κ kind enc) {P : Program} {t : TypeId} (ht : P.underlying t = some kind) (k : κ) (kvs : List (κ × Value)) (w : World) :
  ∃ r : Option (Nat × Value), (Instr.findKey t (enc k) (entries enc kvs)).run P w = .ok r w ∧ r.map (·.2) = mget kvs k ∧ ((∀ x ∈ kvs, x.1 ≠ k) → r = none) := by
 obtain ⟨h1, h2⟩ := findNow_from K k kvs 0 0
 cases hf : Instr.findNow kind (enc k) (entries enc kvs) 0 with
 | none => unfold entries at hf; rw [hf] at h1; cases h1
 | some r =>
  refine ⟨r, ?_, ?_, ?_⟩
  ·
   simp [Instr.findKey, run_underlying ht, hf]
  ·
   unfold entries at hf; rw [hf] at h1; simpa using h1
  ·
   intro hn; have := h2 hn; unfold entries at hf; rw [hf] at this; simpa using this
end
section
variable {κ : Type} {enc : κ → Value}
def mapW (enc : κ → Value) (w : World) (kvs : List (κ × Value)) : World := w.alloc (.map (entries enc kvs).toArray kvs.length)
theorem mapW_at (w : World) (kvs : List (κ × Value)) : (mapW enc w kvs).heap[w.heap.size]? = some (.map (entries enc kvs).toArray kvs.length) := by
 show (w.heap.push _)[w.heap.size]? = _
 simp
theorem mapW_below {B : Nat} {w W : World} (h : RowKit.Below B w W) (hB : B ≤ W.heap.size) (kvs : List (κ × Value)) : RowKit.Below B w (mapW enc W kvs) := h.alloc hB _
theorem mk_map {P : Program} (enc : κ → Value) (T : TypeId) (w : World) : (Instr.makeMap T none).run P w = .ok (.map (some w.heap.size)) (mapW enc w []) := by
 rfl
end
section
variable {κ : Type} [DecidableEq κ] {kind : TypeDesc} {enc : κ → Value}
theorem run_insert (K : KeyAs κ kind enc) {P : Program} {T kt et : TypeId} (hT : P.underlying T = some (.map kt et)) (hk : P.underlying kt = some kind) (k : κ) (v : Value) (kvs : List (κ × Value)) (hn : ∀ x ∈ kvs, x.1 ≠ k)
  (w : World) : (Instr.mapUpdate T (.map (some w.heap.size)) (enc k) v).run P (w.alloc (.map (entries enc kvs).toArray kvs.length)) = .ok () (w.alloc (.map (entries enc (kvs ++ [(k, v)])).toArray (kvs.length + 1))) := by
 obtain ⟨r, h1, -, h3⟩ := run_find K hk k kvs (w.alloc (.map (entries enc kvs).toArray kvs.length))
 obtain rfl := h3 hn
 have hh : (w.alloc (.map (entries enc kvs).toArray kvs.length)).heap[w.heap.size]? = some (.map (entries enc kvs).toArray kvs.length) := by
  show (w.heap.push _)[w.heap.size]? = _
  simp
 simp only [Instr.mapUpdate, run_underlying hT, Sem.run_bind, Result.andThen, getObj, Sem.run, hh, K.check P _ kt k _ hk, h1, setObj]
 congr 1
 simp only [World.alloc]
 congr 1
 apply Array.ext'
 simp [Array.setIfInBounds, entries, List.zipIdx_append]
theorem run_insertW (K : KeyAs κ kind enc) {P : Program} {T kt et : TypeId} (hT : P.underlying T = some (.map kt et)) (hk : P.underlying kt = some kind) (k : κ) (v : Value) (kvs : List (κ × Value)) (hn : ∀ x ∈ kvs, x.1 ≠ k)
  (w : World) : (Instr.mapUpdate T (.map (some w.heap.size)) (enc k) v).run P (mapW enc w kvs) = .ok () (mapW enc w (kvs ++ [(k, v)])) := by
 rw [mapW, run_insert K hT hk k v kvs hn w]
 simp [mapW]
theorem run_lookup_ok (K : KeyAs κ kind enc) {P : Program} {T kt et : TypeId} (hT : P.underlying T = some (.map kt et)) (hk : P.underlying kt = some kind) (k : κ) (kvs : List (κ × Value)) (c : Nat) (z : Value)
  (hz : ∀ w : World, (zeroValue et).run P w = .ok z w) (W : World) (b : Nat) (hb : W.heap[b]? = some (.map (entries enc kvs).toArray c)) :
  (Instr.lookup T (.map (some b)) (enc k) true).run P W = .ok (.tuple #[(mget kvs k).getD z, .bool (mget kvs k).isSome]) W := by
 obtain ⟨r, h1, h2, -⟩ := run_find K hk k kvs W
 simp only [Instr.lookup, run_underlying hT, Sem.run_bind, Result.andThen, getObj, Sem.run, hb, K.check P _ kt k _ hk, h1, ← h2, Sem.run_pure]
 cases r with
 | none => simp [hz, Result.andThen]
 | some r => simp
end
end Go.Proofs.MapLit
end
