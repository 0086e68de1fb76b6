/- The law TokenBetween, walked: joined. -/
import Derived.Test.YtknfpggiigncpaaGreatDoorTb5
import Derived.Test.YtknfpggiigncpaaGreatDoorTb6
import Derived.Test.YtknfpggiigncpaaGreatDoorTb7
set_option linter.unusedVariables false
set_option linter.unusedSimpArgs false
namespace Go.Proofs.YtknfpggiigncpaaGreatDoor.C
open Go.RowKit Go.Proofs.YtknfpggiigncpaaGreatDoor.P Go.Proofs.YtknfpggiigncpaaGreatDoorW.PrintWords Go.Proofs.YtknfpggiigncpaaGreatDoorW.PrintLast Go.Proofs.YtknfpggiigncpaaGreatDoorW.PrintMore
set_option maxHeartbeats 60000000 in
set_option maxRecDepth 100000 in
theorem tokenBetween_any (s t : ByteArray) (w : World) (hs : s.size ≤ 140737488351232) (ht : t.size ≤ 140737488351232) (hG : Glob w) : Calls Tryz.prog 5 #[.string s, .string t] w fun e w' => e = .returned (.bool true) ∧ Below w.heap.size w w' := by
  by_cases hs1 : s.size ≤ 1000
  · by_cases ht1 : t.size ≤ 1000
    · have gs : decide ((1000 : Int) < (s.size : Int)) = false := decide_eq_false (by omega)
      have gt : decide ((1000 : Int) < (t.size : Int)) = false := decide_eq_false (by omega)
      have hfs : token_Tokens.f s = some ((tokR s).1, (tokR s).2.1, (tokR s).2.2) := by
        unfold token_Tokens.f
        rw [if_pos (by omega)]
      have hft : token_Tokens.f t = some ((tokR t).1, (tokR t).2.1, (tokR t).2.2) := by
        unfold token_Tokens.f
        rw [if_pos (by omega)]
      have hbs := tokR_bounds2 s hs1
      have hbt := tokR_bounds2 t ht1
      have hnos := @tokR_no s
      have hnot := @tokR_no t
      have h2 := @two_texts s t (s ++ t) (by simp)
      have h3 := @three_texts s t (s ++ ⟨midB.toArray⟩ ++ t) (by simp [midB])
      have g0 : t.size = 0 ∨ (0 < t.size ∧ t.size ≤ 4) ∨ 4 < t.size := by omega
      have hz1 : ¬ (9223372036854775807 < s.size + 10) := by omega
      have hz2 : ¬ (9223372036854775807 < s.size + 10 + t.size) := by omega
      have hz3 : ¬ (9223372036854775807 < s.size + t.size) := by omega
      rcases g0 with g0 | ⟨g0, g1⟩ | g0
      case inl =>
        have hL : LtX t.data.toList := .inl (List.length_eq_zero_iff.1 (by rw [← Lib.size_eq]; exact g0))
        have hN : Lib.hasPrefix t.data.toList xmlP = false := by rw [List.length_eq_zero_iff.1 (show t.data.toList.length = 0 by rw [← Lib.size_eq]; exact g0)]; rfl
        have k1 : decide ((0 : Int) < (t.size : Int)) = false := decide_eq_false (by omega)
        have k2 : decide ((4 : Int) < (t.size : Int)) = false := decide_eq_false (by omega)
        exact tb_empty s t w hs ht hG hs1 ht1 (by omega)
      case inr.inl =>
        have k1 : decide ((0 : Int) < (t.size : Int)) = true := decide_eq_true (by omega)
        have k2 : decide ((4 : Int) < (t.size : Int)) = false := decide_eq_false (by omega)
        by_cases h60 : t[0]'(by omega) = 60
        case pos =>
          have hL : LtX t.data.toList := lt_of t (by omega) h60
          have hN : Lib.hasPrefix t.data.toList xmlP = false := by
            cases h : Lib.hasPrefix t.data.toList xmlP with
            | false => rfl
            | true => have := Lib.hasPrefix_le h; rw [← Lib.size_eq] at this; simp [xmlP] at this; omega
          have k3 : ((((t[0]'(by omega)).toNat : Nat) : Int) != 60) = false := by rw [h60]; rfl
          exact tb_short s t w hs ht hG hs1 ht1 g0 g1 h60
        case neg =>
          have k3 : ((((t[0]'(by omega)).toNat : Nat) : Int) != 60) = true := bne_iff_ne.2 (fun h => h60 (UInt8.toNat_inj.1 (show (t[0]'(by omega)).toNat = 60 by omega)))
          clear hfs hft hbs hbt hnos hnot h2 h3
          go_enter Tryz.func5, Tryz.ntmps5
          go_wp2_with fail
          refine (wakes_any _ hG).mono ?_
          rintro e w1 ⟨rfl, hb1⟩
          have HB := Aside0.mk hb1
          clear hb1
          go_wp2_with fail
          go_ret
          exact ⟨rfl, HB.out⟩
      case inr.inr =>
        have k1 : decide ((0 : Int) < (t.size : Int)) = true := decide_eq_true (by omega)
        have k2 : decide ((4 : Int) < (t.size : Int)) = true := decide_eq_true (by omega)
        by_cases h60 : t[0]'(by omega) = 60
        case pos =>
          have hL : LtX t.data.toList := lt_of t (by omega) h60
          have k3 : ((((t[0]'(by omega)).toNat : Nat) : Int) != 60) = false := by rw [h60]; rfl
          have k4 : ((t.extract 0 5).toList == [60, 63, 120, 109, 108]) = Lib.hasPrefix t.data.toList xmlP := by
            rw [show xmlP = (⟨#[60, 63, 120, 109, 108]⟩ : ByteArray).data.toList from rfl, ← Lib.hasPrefix_raw]
            rw [show (⟨#[60, 63, 120, 109, 108]⟩ : ByteArray).size = 5 from rfl, decide_eq_true (by omega), Bool.true_and, Lib.toList_data ⟨#[60, 63, 120, 109, 108]⟩]
          cases hN : Lib.hasPrefix t.data.toList xmlP
          case false => exact tb_long s t w hs ht hG hs1 ht1 g0 h60 hN
          case true =>
            rw [hN] at k4
            clear hfs hft hbs hbt hnos hnot h2 h3
            go_enter Tryz.func5, Tryz.ntmps5
            go_wp2_with fail
            refine (wakes_any _ hG).mono ?_
            rintro e w1 ⟨rfl, hb1⟩
            have HB := Aside0.mk hb1
            clear hb1
            go_wp2_with fail
            go_ret
            exact ⟨rfl, HB.out⟩
        case neg =>
          have k3 : ((((t[0]'(by omega)).toNat : Nat) : Int) != 60) = true := bne_iff_ne.2 (fun h => h60 (UInt8.toNat_inj.1 (show (t[0]'(by omega)).toNat = 60 by omega)))
          clear hfs hft hbs hbt hnos hnot h2 h3
          go_enter Tryz.func5, Tryz.ntmps5
          go_wp2_with fail
          refine (wakes_any _ hG).mono ?_
          rintro e w1 ⟨rfl, hb1⟩
          have HB := Aside0.mk hb1
          clear hb1
          go_wp2_with fail
          go_ret
          exact ⟨rfl, HB.out⟩
    · have gs : decide ((1000 : Int) < (s.size : Int)) = false := decide_eq_false (by omega)
      have gt : decide ((1000 : Int) < (t.size : Int)) = true := decide_eq_true (by omega)
      go_enter Tryz.func5, Tryz.ntmps5
      go_wp2_with fail
      refine (wakes_any _ hG).mono ?_
      rintro e w1 ⟨rfl, hb1⟩
      have HB := Aside0.mk hb1
      clear hb1
      go_wp2_with fail
      go_ret
      exact ⟨rfl, HB.out⟩
  · have gs : decide ((1000 : Int) < (s.size : Int)) = true := decide_eq_true (by omega)
    go_enter Tryz.func5, Tryz.ntmps5
    go_wp2_with fail
    refine (wakes_any _ hG).mono ?_
    rintro e w1 ⟨rfl, hb1⟩
    have HB := Aside0.mk hb1
    clear hb1
    go_wp2_with fail
    go_ret
    exact ⟨rfl, HB.out⟩
end Go.Proofs.YtknfpggiigncpaaGreatDoor.C
