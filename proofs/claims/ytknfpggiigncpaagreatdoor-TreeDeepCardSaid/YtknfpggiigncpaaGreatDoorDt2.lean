/- The law TreeDeep, walked. -/
import Derived.Test.YtknfpggiigncpaaGreatDoorDt1
import Derived.Test.YtknfpggiigncpaaGreatDoorUr8
import Derived.OpenShut
set_option linter.unusedVariables false
set_option linter.unusedSimpArgs false
namespace Go.Proofs.YtknfpggiigncpaaGreatDoor.T
open Go.RowKit Go.Proofs.YtknfpggiigncpaaGreatDoor.P Go.Proofs.YtknfpggiigncpaaGreatDoor.E Go.Proofs.YtknfpggiigncpaaGreatDoorW.PrintLast Go.Proofs.YtknfpggiigncpaaGreatDoorW.PrintMore
open Go.Proofs.YtknfpggiigncpaaGreatDoorW.PrintWords

def baR (k : Nat) (l : List UInt8) : ByteArray := ⟨(reps k l).toArray⟩
theorem baR_succ (k : Nat) (l : List UInt8) : baR k l ++ ⟨l.toArray⟩ = baR (k + 1) l := by
  apply ByteArray.ext
  apply Array.toList_inj.1
  unfold baR
  rw [reps_snoc]
  simp
theorem baR_size (k : Nat) (l : List UInt8) : (baR k l).size = k * l.length := by
  unfold baR
  show (reps k l).toArray.size = _
  rw [List.size_toArray, reps_len]
def wideB (k : Nat) : ByteArray := ⟨(oA ++ reps k sB).toArray⟩
theorem wideB_succ (k : Nat) : wideB k ++ ⟨#[60, 98, 47, 62]⟩ = wideB (k + 1) := by
  apply ByteArray.ext
  apply Array.toList_inj.1
  unfold wideB
  rw [reps_snoc]
  simp [sB]
theorem wideB_size (k : Nat) : (wideB k).size = 3 + k * 4 := by
  unfold wideB
  show (oA ++ reps k sB).toArray.size = _
  rw [List.size_toArray, List.length_append, reps_len]
  rfl
theorem deep_text (n : Nat) : (baR n oA ++ baR n cA).data.toList = deepL n := by
  unfold baR deepL
  simp
theorem wide_text (m : Nat) : (wideB m ++ ⟨#[60, 47, 97, 62]⟩).data.toList = wideL m := by
  unfold wideB wideL
  simp [cA]
set_option maxHeartbeats 4000000 in
set_option maxRecDepth 100000 in
theorem deep_low (n m : Nat) (w : World) (hn : n ≤ 100) (hm : m ≤ 255) (hG : Glob w) : Calls Tryz.prog 10 #[.int .u8 n, .int .u8 m] w fun e w' => e = .returned (.bool true) ∧ Below w.heap.size w w' := by
  have HG := Lib.hid hG
  clear hG
  have b1 : decide ((100 : Int) < (n : Int)) = false := decide_eq_false (by omega)
  have b2 : decide (100 < n) = false := decide_eq_false (by omega)
  go_enter Tryz.func10, Tryz.ntmps10
  go_wp2_with fail
  go_loopg [5, 6, 7] (n + 1) (fun kq v5 v6 v7 wr => ∃ k : Nat, v7 = .int .i64 k ∧ k ≤ n ∧ v5 = .string (baR k oA) ∧ v6 = .string (baR k cA) ∧ Aside0 (kq + k = n + 1) ∧ Aside0 (wr = w))
  case atStart => exact ⟨0, rfl, Nat.zero_le _, rfl, rfl, ⟨by omega⟩, ⟨rfl⟩⟩
  case round =>
    obtain ⟨k, rfl, hk, rfl, rfl, HK, HW⟩ := hrel
    have z1 := baR_size k oA
    have z2 := baR_size k cA
    rw [show oA.length = 3 from rfl] at z1
    rw [show cA.length = 4 from rfl] at z2
    have q1 : (9223372036854775807 < (baR k oA).size + 3) = False := eq_false (by omega)
    have q2 : (9223372036854775807 < (baR k cA).size + 4) = False := eq_false (by omega)
    have q3 : (9223372036854775807 < (baR k oA).size + (baR k cA).size) = False := eq_false (by omega)
    have zs : (baR k oA ++ baR k cA).size ≤ 140737488355328 := by rw [ByteArray.size_append]; omega
    clear z1 z2
    by_cases h : k < n
    · have g1 : decide ((k : Int) < (n : Int)) = true := decide_eq_true (by omega)
      have g2 : decide (k < n) = true := decide_eq_true h
      go_wp2_with fail
      go_roundg (n - k)
      case measure => have := HK.out; omega
      case rel => exact ⟨k + 1, by go_num, by omega, congrArg Value.string (baR_succ k oA), congrArg Value.string (baR_succ k cA), ⟨by have := HK.out; omega⟩, HW⟩
    · have g1 : decide ((k : Int) < (n : Int)) = false := decide_eq_false (by omega)
      have g2 : decide (k < n) = false := decide_eq_false h
      obtain rfl : k = n := by omega
      obtain rfl : wr = w := HW.out
      obtain ⟨hp1, hp2⟩ := deep_parse k hn (baR k oA ++ baR k cA) (deep_text k)
      have hP := parse_any (baR k oA ++ baR k cA) wr zs HG.out
      clear q1 q2 zs h HK HW
      go_wp2_with fail
      refine hP.mono ?_
      rintro e w1 ⟨A1, c1, rfl, hc1, hC1, hb1⟩
      generalize parseT (baR k oA ++ baR k cA) = R at hp1 hp2 hC1 hc1 ⊢
      have hba1 := below_alloc (Below.refl w1.heap.size w1) (.cells #[.string R.root.f0, .string R.root.f1, .slice A1 R.root.f2.length c1] 24)
      have hk1 := (MapKept.heap_alloc w1 (.cells #[.string R.root.f0, .string R.root.f1, .slice A1 R.root.f2.length c1] 24)).1
      have HB2 := Lib.hid (hb1.trans (hba1.mono hb1.size))
      have HP2 := Lib.hid hp2
      clear hC1 hb1 hba1 hp2 q3
      rw [hp1]
      dsimp only
      have hE : k = 0 ∨ (0 < k ∧ k ≤ 64) ∨ 64 < k := by omega
      have HP1 := Lib.hid hp1
      clear hp1
      rcases hE with rfl | ⟨h0, h64⟩ | h64
      · rw [if_neg (by decide), if_pos rfl]
        go_wp2_with fail
        generalize w1.heap.size = ga at hk1 ⊢
        generalize w1.alloc _ = w2 at hk1 HB2 ⊢
        go_loopg [13, 14] (m + 1) (fun kq v13 v14 wr2 => ∃ j : Nat, v14 = .int .i64 j ∧ j ≤ m ∧ v13 = .string (wideB j) ∧ Aside0 (kq + j = m + 1) ∧ Aside0 (wr2 = w2))
        case atStart => exact ⟨0, rfl, Nat.zero_le _, rfl, ⟨by omega⟩, ⟨rfl⟩⟩
        case round =>
          obtain ⟨j, rfl, hj, rfl, HKj, HWj⟩ := hrel
          have z3 := wideB_size j
          have q4 : (9223372036854775807 < (wideB j).size + 4) = False := eq_false (by omega)
          have zs : (wideB j ++ ⟨#[60, 47, 97, 62]⟩).size ≤ 140737488355328 := by
            rw [ByteArray.size_append, z3, show (⟨#[60, 47, 97, 62]⟩ : ByteArray).size = 4 from rfl]
            omega
          clear z3
          by_cases hjm : j < m
          · have u1 : decide ((j : Int) < (m : Int)) = true := decide_eq_true (by omega)
            have u2 : decide (j < m) = true := decide_eq_true hjm
            go_wp2_with fail
            go_roundg (m - j)
            case measure => have := HKj.out; omega
            case rel => exact ⟨j + 1, by go_num, by omega, congrArg Value.string (wideB_succ j), ⟨by have := HKj.out; omega⟩, HWj⟩
          · have u1 : decide ((j : Int) < (m : Int)) = false := decide_eq_false (by omega)
            have u2 : decide (j < m) = false := decide_eq_false hjm
            obtain rfl : j = m := by omega
            obtain rfl : wr = w2 := HWj.out
            obtain ⟨hq1, hq2⟩ := wide_parse j (by omega) (wideB j ++ ⟨#[60, 47, 97, 62]⟩) (wide_text j)
            have hQ := parse_any (wideB j ++ ⟨#[60, 47, 97, 62]⟩) wr zs (HG.out.below HB2.out)
            clear zs hjm HKj HWj
            go_wp2_with fail
            refine hQ.mono ?_
            rintro e w3 ⟨A2, c2, rfl, hc2, hC2, hb3⟩
            generalize parseT (wideB j ++ ⟨#[60, 47, 97, 62]⟩) = Q at hq1 hq2 hC2 hc2 ⊢
            rw [hq2] at hc2 ⊢
            rw [hq1]
            have hba3 := below_alloc (Below.refl w3.heap.size w3) (.cells #[.string Q.root.f0, .string Q.root.f1, .slice A2 j c2] 24)
            have hl1 := (MapKept.heap_alloc w3 (.cells #[.string Q.root.f0, .string Q.root.f1, .slice A2 j c2] 24)).1
            have hb34 := hb3.trans (hba3.mono hb3.size)
            have HB4 := Lib.hid (HB2.out.trans (hb34.mono HB2.out.size))
            have hk4 := (hb34.block ga (Array.getElem?_eq_some_iff.1 hk1).1).trans hk1
            clear hC2 hb3 hba3 hb34 HB2 hq1 hq2 q4 hQ
            dsimp only
            go_upto_region 23 with fail
            generalize w3.heap.size = gb at hl1 ⊢
            generalize w3.alloc _ = w4 at hk4 hl1 HB4 ⊢
            have a0 := (cell_of_row _ _ 0 _ _ _ hk4).trans (show _ = some (Value.string R.root.f0) from rfl)
            have d2 := (cell_of_row _ _ 2 _ _ _ hl1).trans (show _ = some (Value.slice A2 j c2) from rfl)
            have x1 : ((j : Int) == (j : Int)) = true := by simp
            have x2 : (j == j) = true := by simp
            go_wp2_with fail
            refine (twakes_any w4 (HG.out.below HB4.out)).mono ?_
            rintro e w6 ⟨rfl, hb6⟩
            have HB6 := Lib.hid (HB4.out.trans (hb6.mono HB4.out.size))
            clear hb6
            dsimp only
            go_wp2_with fail
            go_ret
            exact ⟨rfl, HB6.out⟩
      · rw [if_neg (by omega), if_neg (by omega)]
        have s0 : decide ((64 : Int) < (k : Int)) = false := decide_eq_false (by omega)
        have s1 : decide (64 < k) = false := decide_eq_false (by omega)
        have s2 : ((k : Int) == 0) = false := beq_eq_false_iff_ne.2 (by omega)
        have s3 : (k == 0) = false := beq_eq_false_iff_ne.2 (by omega)
        go_wp2_with fail
        generalize w1.heap.size = ga at hk1 ⊢
        generalize w1.alloc _ = w2 at hk1 HB2 ⊢
        go_loopg [13, 14] (m + 1) (fun kq v13 v14 wr2 => ∃ j : Nat, v14 = .int .i64 j ∧ j ≤ m ∧ v13 = .string (wideB j) ∧ Aside0 (kq + j = m + 1) ∧ Aside0 (wr2 = w2))
        case atStart => exact ⟨0, rfl, Nat.zero_le _, rfl, ⟨by omega⟩, ⟨rfl⟩⟩
        case round =>
          obtain ⟨j, rfl, hj, rfl, HKj, HWj⟩ := hrel
          have z3 := wideB_size j
          have q4 : (9223372036854775807 < (wideB j).size + 4) = False := eq_false (by omega)
          have zs : (wideB j ++ ⟨#[60, 47, 97, 62]⟩).size ≤ 140737488355328 := by
            rw [ByteArray.size_append, z3, show (⟨#[60, 47, 97, 62]⟩ : ByteArray).size = 4 from rfl]
            omega
          clear z3
          by_cases hjm : j < m
          · have u1 : decide ((j : Int) < (m : Int)) = true := decide_eq_true (by omega)
            have u2 : decide (j < m) = true := decide_eq_true hjm
            go_wp2_with fail
            go_roundg (m - j)
            case measure => have := HKj.out; omega
            case rel => exact ⟨j + 1, by go_num, by omega, congrArg Value.string (wideB_succ j), ⟨by have := HKj.out; omega⟩, HWj⟩
          · have u1 : decide ((j : Int) < (m : Int)) = false := decide_eq_false (by omega)
            have u2 : decide (j < m) = false := decide_eq_false hjm
            obtain rfl : j = m := by omega
            obtain rfl : wr = w2 := HWj.out
            obtain ⟨hq1, hq2⟩ := wide_parse j (by omega) (wideB j ++ ⟨#[60, 47, 97, 62]⟩) (wide_text j)
            have hQ := parse_any (wideB j ++ ⟨#[60, 47, 97, 62]⟩) wr zs (HG.out.below HB2.out)
            clear zs hjm HKj HWj
            go_wp2_with fail
            refine hQ.mono ?_
            rintro e w3 ⟨A2, c2, rfl, hc2, hC2, hb3⟩
            generalize parseT (wideB j ++ ⟨#[60, 47, 97, 62]⟩) = Q at hq1 hq2 hC2 hc2 ⊢
            rw [hq2] at hc2 ⊢
            rw [hq1]
            have hba3 := below_alloc (Below.refl w3.heap.size w3) (.cells #[.string Q.root.f0, .string Q.root.f1, .slice A2 j c2] 24)
            have hl1 := (MapKept.heap_alloc w3 (.cells #[.string Q.root.f0, .string Q.root.f1, .slice A2 j c2] 24)).1
            have hb34 := hb3.trans (hba3.mono hb3.size)
            have HB4 := Lib.hid (HB2.out.trans (hb34.mono HB2.out.size))
            have hk4 := (hb34.block ga (Array.getElem?_eq_some_iff.1 hk1).1).trans hk1
            clear hC2 hb3 hba3 hb34 HB2 hq1 hq2 q4 hQ
            dsimp only
            go_upto_region 23 with fail
            generalize w3.heap.size = gb at hl1 ⊢
            generalize w3.alloc _ = w4 at hk4 hl1 HB4 ⊢
            have a0 := (cell_of_row _ _ 0 _ _ _ hk4).trans (show _ = some (Value.string R.root.f0) from rfl)
            have d2 := (cell_of_row _ _ 2 _ _ _ hl1).trans (show _ = some (Value.slice A2 j c2) from rfl)
            have hn0 : R.root.f0 = nA := HP2.out (by rw [HP1.out, if_neg (by omega), if_neg (by omega)])
            rw [hn0] at a0
            have x0 : (nA.toList == (⟨#[97]⟩ : ByteArray).toList) = true := by rw [Lib.toList_data, Lib.toList_data]; rfl
            have x3 : nA.toList = [97] := by rw [Lib.toList_data]; rfl
            have x1 : ((j : Int) == (j : Int)) = true := by simp
            have x2 : (j == j) = true := by simp
            go_wp2_with fail
            refine (twakes_any w4 (HG.out.below HB4.out)).mono ?_
            rintro e w6 ⟨rfl, hb6⟩
            have HB6 := Lib.hid (HB4.out.trans (hb6.mono HB4.out.size))
            clear hb6
            dsimp only
            go_wp2_with fail
            go_ret
            exact ⟨rfl, HB6.out⟩
      · rw [if_pos h64]
        have s0 : decide ((64 : Int) < (k : Int)) = true := decide_eq_true (by omega)
        have s1 : decide (64 < k) = true := decide_eq_true (by omega)
        have s2 : ((k : Int) == 0) = false := beq_eq_false_iff_ne.2 (by omega)
        have s3 : (k == 0) = false := beq_eq_false_iff_ne.2 (by omega)
        go_wp2_with fail
        generalize w1.heap.size = ga at hk1 ⊢
        generalize w1.alloc _ = w2 at hk1 HB2 ⊢
        go_loopg [13, 14] (m + 1) (fun kq v13 v14 wr2 => ∃ j : Nat, v14 = .int .i64 j ∧ j ≤ m ∧ v13 = .string (wideB j) ∧ Aside0 (kq + j = m + 1) ∧ Aside0 (wr2 = w2))
        case atStart => exact ⟨0, rfl, Nat.zero_le _, rfl, ⟨by omega⟩, ⟨rfl⟩⟩
        case round =>
          obtain ⟨j, rfl, hj, rfl, HKj, HWj⟩ := hrel
          have z3 := wideB_size j
          have q4 : (9223372036854775807 < (wideB j).size + 4) = False := eq_false (by omega)
          have zs : (wideB j ++ ⟨#[60, 47, 97, 62]⟩).size ≤ 140737488355328 := by
            rw [ByteArray.size_append, z3, show (⟨#[60, 47, 97, 62]⟩ : ByteArray).size = 4 from rfl]
            omega
          clear z3
          by_cases hjm : j < m
          · have u1 : decide ((j : Int) < (m : Int)) = true := decide_eq_true (by omega)
            have u2 : decide (j < m) = true := decide_eq_true hjm
            go_wp2_with fail
            go_roundg (m - j)
            case measure => have := HKj.out; omega
            case rel => exact ⟨j + 1, by go_num, by omega, congrArg Value.string (wideB_succ j), ⟨by have := HKj.out; omega⟩, HWj⟩
          · have u1 : decide ((j : Int) < (m : Int)) = false := decide_eq_false (by omega)
            have u2 : decide (j < m) = false := decide_eq_false hjm
            obtain rfl : j = m := by omega
            obtain rfl : wr = w2 := HWj.out
            obtain ⟨hq1, hq2⟩ := wide_parse j (by omega) (wideB j ++ ⟨#[60, 47, 97, 62]⟩) (wide_text j)
            have hQ := parse_any (wideB j ++ ⟨#[60, 47, 97, 62]⟩) wr zs (HG.out.below HB2.out)
            clear zs hjm HKj HWj
            go_wp2_with fail
            refine hQ.mono ?_
            rintro e w3 ⟨A2, c2, rfl, hc2, hC2, hb3⟩
            generalize parseT (wideB j ++ ⟨#[60, 47, 97, 62]⟩) = Q at hq1 hq2 hC2 hc2 ⊢
            rw [hq2] at hc2 ⊢
            rw [hq1]
            have hba3 := below_alloc (Below.refl w3.heap.size w3) (.cells #[.string Q.root.f0, .string Q.root.f1, .slice A2 j c2] 24)
            have hl1 := (MapKept.heap_alloc w3 (.cells #[.string Q.root.f0, .string Q.root.f1, .slice A2 j c2] 24)).1
            have hb34 := hb3.trans (hba3.mono hb3.size)
            have HB4 := Lib.hid (HB2.out.trans (hb34.mono HB2.out.size))
            have hk4 := (hb34.block ga (Array.getElem?_eq_some_iff.1 hk1).1).trans hk1
            clear hC2 hb3 hba3 hb34 HB2 hq1 hq2 q4 hQ
            dsimp only
            go_upto_region 23 with fail
            generalize w3.heap.size = gb at hl1 ⊢
            generalize w3.alloc _ = w4 at hk4 hl1 HB4 ⊢
            have a0 := (cell_of_row _ _ 0 _ _ _ hk4).trans (show _ = some (Value.string R.root.f0) from rfl)
            have d2 := (cell_of_row _ _ 2 _ _ _ hl1).trans (show _ = some (Value.slice A2 j c2) from rfl)
            have x1 : ((j : Int) == (j : Int)) = true := by simp
            have x2 : (j == j) = true := by simp
            go_wp2_with fail
            refine (twakes_any w4 (HG.out.below HB4.out)).mono ?_
            rintro e w6 ⟨rfl, hb6⟩
            have HB6 := Lib.hid (HB4.out.trans (hb6.mono HB4.out.size))
            clear hb6
            dsimp only
            go_wp2_with fail
            go_ret
            exact ⟨rfl, HB6.out⟩
theorem u8_nat {n : Int} (h : (Lit.int .u8 n).wf = true) : ∃ k : Nat, n = (k : Int) ∧ k ≤ 255 := by
  have hb := bounds_u8 h
  exact ⟨n.toNat, by omega, by omega⟩
set_option maxHeartbeats 4000000 in
set_option maxRecDepth 100000 in
theorem treeDeep_any (a0 a1 : Int) (w : World) (y0 : (Lit.int .u8 a0).wf = true) (y1 : (Lit.int .u8 a1).wf = true) (hG : Glob w) : Calls Tryz.prog 10 #[.int .u8 a0, .int .u8 a1] w fun e w' => e = .returned (.bool true) ∧ Below w.heap.size w w' := by
  obtain ⟨n, rfl, hn⟩ := u8_nat y0
  obtain ⟨m, rfl, hm⟩ := u8_nat y1
  clear y0 y1
  by_cases h : n ≤ 100
  · exact deep_low n m w h hm hG
  · have b1 : decide ((100 : Int) < (n : Int)) = true := decide_eq_true (by omega)
    have b2 : decide (100 < n) = true := decide_eq_true (by omega)
    have HG := Lib.hid hG
    clear hG h
    go_enter Tryz.func10, Tryz.ntmps10
    go_wp2_with fail
    refine (twakes_any w HG.out).mono ?_
    rintro e w1 ⟨rfl, hb⟩
    dsimp only
    go_wp2_with fail
    go_ret
    exact ⟨rfl, hb⟩
end Go.Proofs.YtknfpggiigncpaaGreatDoor.T
