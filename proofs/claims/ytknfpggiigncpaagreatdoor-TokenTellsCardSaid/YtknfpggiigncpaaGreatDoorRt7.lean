/- The law TokenTells, walked. -/
import Derived.Test.YtknfpggiigncpaaGreatDoorRt6
import Derived.Test.YtknfpggiigncpaaGreatDoorRt2
import Derived.Test.YtknfpggiigncpaaGreatDoorRt3
set_option linter.unusedVariables false
set_option linter.unusedSimpArgs false
namespace Go.Proofs.YtknfpggiigncpaaGreatDoor.C
open Go.RowKit Go.Proofs.YtknfpggiigncpaaGreatDoor.P Go.Proofs.YtknfpggiigncpaaGreatDoorW.PrintWords Go.Proofs.YtknfpggiigncpaaGreatDoorW.PrintLast Go.Proofs.YtknfpggiigncpaaGreatDoorW.PrintMore

theorem putT_mem {xs : List S44} {t y : S44} (h : y ∈ putT xs t) : y ∈ xs ∨ y = t := by
  unfold putT at h
  split at h
  · exact .inl h
  · simpa using h
theorem tk1_attrs {s : ByteArray} {p q : Nat} {xs ys : List S44} (hp : p < s.size) (h : tk1T s p xs = .ok (q, ys)) : ∀ y ∈ ys, y ∈ xs ∨ y.f3.length ≤ s.size := by
  have hrl := rs_len s p
  have hfi := formI_le (rs s p)
  unfold tk1T at h
  split at h
  · unfold form1R form1T at h
    cases hu : untilT s (p + 4) [45, 45, 62] with
    | error x => rw [hu] at h; cases h
    | ok x =>
      rw [hu] at h
      simp only at h
      split at h
      · cases h
      · injection h with h
        injection h with h1 h2
        subst h2
        exact fun y hy => .inl hy
  · unfold form2T at h
    cases hu : untilT s (p + 9) [93, 93, 62] with
    | error x => rw [hu] at h; cases h
    | ok x =>
      rw [hu] at h
      injection h with h
      injection h with h1 h2
      subst h2
      intro y hy
      rcases putT_mem hy with hy | rfl
      · exact .inl hy
      · exact .inr (Nat.zero_le _)
  · unfold form3T at h
    cases hu : nameT s (p + 2) with
    | error x => rw [hu] at h; cases h
    | ok x =>
      rw [hu] at h
      simp only at h
      cases hm : mustT s (x.2 + blankN (rs s x.2)) [62] with
      | error x => rw [hm] at h; cases h
      | ok q2 =>
        rw [hm] at h
        injection h with h
        injection h with h1 h2
        subst h2
        intro y hy
        rcases putT_mem hy with hy | rfl
        · exact .inl hy
        · exact .inr (Nat.zero_le _)
  · unfold form4T at h
    cases hu : nameT s (p + 1) with
    | error x => rw [hu] at h; cases h
    | ok x =>
      obtain ⟨a, q1⟩ := x
      have l1 := nameT_le hu (by omega)
      rw [hu] at h
      simp only at h
      cases ha : attrsT s (s.size + 1 - q1) q1 [] with
      | error x => rw [ha] at h; cases h
      | ok x =>
        obtain ⟨l, q2⟩ := x
        have l2 := attrsT_le s _ _ _ _ _ l1.1 ha
        rw [ha] at h
        simp only at h
        cases hm : mustT s (selfN s q2) [62] with
        | error x => rw [hm] at h; cases h
        | ok q4 =>
          rw [hm] at h
          injection h with h
          injection h with h1 h2
          subst h2
          intro y hy
          rcases putT_mem hy with hy | rfl
          · exact .inl hy
          · refine .inr ?_
            simp at l2
            show l.length ≤ _
            omega
  · unfold textTk at h
    cases hu : plainT (Lib.cut (rs s p) [60]).1 p with
    | error x => rw [hu] at h; cases h
    | ok x =>
      rw [hu] at h
      injection h with h
      injection h with h1 h2
      subst h2
      intro y hy
      rcases putT_mem hy with hy | rfl
      · exact .inl hy
      · exact .inr (Nat.zero_le _)
theorem tk_attrs {s : ByteArray} : ∀ (f p : Nat) (xs ys : List S44), p ≤ s.size → xs.length ≤ p → (∀ y ∈ xs, y.f3.length ≤ s.size) → tkT s f p xs = .ok ys → ys.length ≤ s.size ∧ ∀ y ∈ ys, y.f3.length ≤ s.size
  | 0, p, xs, ys, hp, hl, ha, h => by
    injection h with h
    subst h
    exact ⟨by omega, ha⟩
  | f + 1, p, xs, ys, hp, hl, ha, h => by
    simp only [tkT] at h
    split at h
    · rename_i hps
      cases h1 : tk1T s p xs with
      | error z => rw [h1] at h; cases h
      | ok y =>
        obtain ⟨q, zs⟩ := y
        rw [h1] at h
        have hle := tk1_le hps h1
        have hat := tk1_attrs hps h1
        exact tk_attrs f q zs ys hle.2.1 (by omega) (fun y hy => (hat y hy).elim (ha y) id) h
    · injection h with h
      subst h
      exact ⟨by omega, ha⟩
theorem start_le {s : ByteArray} {q : Nat} (h : startT s = .ok q) : q ≤ s.size := (start_app (x := []) (S := s) (by simp) (.inl rfl) rfl h).1
theorem tokR_bounds (s : ByteArray) (hs : s.size ≤ 3000) : (tokR s).1.length ≤ 3000 ∧ ∀ y ∈ (tokR s).1, y.f3.length ≤ 3000 := by
  by_cases h : (tokR s).2.2 = 0
  · obtain ⟨_, _, hr⟩ := tokR_ok h
    unfold readT at hr
    cases hst : startT s with
    | error z => rw [hst] at hr; cases hr
    | ok q =>
      rw [hst] at hr
      have := tk_attrs _ q [] _ (start_le hst) (Nat.zero_le _) (fun y hy => by cases hy) hr
      exact ⟨by omega, fun y hy => by have := this.2 y hy; omega⟩
  · rw [tokR_no h]
    exact ⟨Nat.zero_le _, fun y hy => by cases hy⟩
set_option maxHeartbeats 4000000 in
set_option maxRecDepth 100000 in
theorem tokenTells_any (s : ByteArray) (w : World) (hsz : s.size ≤ 140737488351232) (hG : Glob w) : Calls Tryz.prog 4 #[.string s] w fun e w' => e = .returned (.bool true) ∧ Below w.heap.size w w' := by
  by_cases hs : s.size ≤ 3000
  · have hb := tokR_bounds s hs
    have hf : token_Tokens.f s = some ((tokR s).1, (tokR s).2.1, (tokR s).2.2) := by
      unfold token_Tokens.f
      rw [if_pos (by omega)]
    have hr := fun w => rTokens s w hs
    generalize tokR s = R at hb hf hr
    obtain ⟨l, a, er⟩ := R
    unfold RTok at hr
    dsimp only at hb hf hr
    obtain ⟨hb1, hb2⟩ := hb
    have g0 : decide ((3000 : Int) < (s.size : Int)) = false := decide_eq_false (by omega)
    have g1 : (er == er) = true := by simp
    have g2 : (a == a) = true := by simp
    have HR := Lib.hid hr
    have HF := Lib.hid hf
    have H2 := Lib.hid hb2
    clear hr hf hb2
    go_enter Tryz.func4, Tryz.ntmps4
    go_wp2_with fail
    refine (token_Tokens.calls s _ _ _ _ HF.out hG).mono ?_
    rintro e w1 ⟨v1, rfl, hS1, hb1w⟩
    have HB := Aside0.mk hb1w
    obtain ⟨A1, c1, rfl, hc1, hC1⟩ := Kd.S_reads hS1
    have HC1 := Lib.hid hC1
    clear hS1 hb1w hC1
    go_wp2_with fail
    refine (HR.out _).mono ?_
    rintro e w2 ⟨v2, rfl, hS2, hb2w⟩
    have HB2 := Aside0.mk (HB.out.trans (hb2w.mono HB.out.size))
    have HB12 := Aside0.mk hb2w
    obtain ⟨A2, c2, rfl, hc2, hC2⟩ := Kd.S_reads hS2
    rw [List.length_map] at hC2 ⊢
    have HC2 := Lib.hid hC2
    have HC3 := Lib.hid (Kd.C_below HC1.out HB12.out)
    clear hS2 hb2w hC2
    go_wp2_with fail
    refine (same_any l A1 A2 c1 c2 _ HC3.out HC2.out (by omega) (fun x hx => by have := H2.out x hx; omega)).mono ?_
    rintro e w3 ⟨rfl, hb3⟩
    have HB3 := Aside0.mk (HB2.out.trans (hb3.mono HB2.out.size))
    clear hb3
    go_wp2_with fail
    refine (wakes_any _ (hG.below HB3.out)).mono ?_
    rintro e w4 ⟨rfl, hb4⟩
    have HB4 := Aside0.mk (HB3.out.trans (hb4.mono HB3.out.size))
    clear hb4
    go_wp2_with fail
    go_ret
    exact ⟨rfl, HB4.out⟩
  · have g0 : decide ((3000 : Int) < (s.size : Int)) = true := decide_eq_true (by omega)
    go_enter Tryz.func4, Tryz.ntmps4
    go_wp2_with fail
    refine (wakes_any _ hG).mono ?_
    rintro e w1 ⟨rfl, hb1⟩
    have HB := Aside0.mk hb1
    clear hb1
    go_wp2_with fail
    go_ret
    exact ⟨rfl, HB.out⟩
end Go.Proofs.YtknfpggiigncpaaGreatDoor.C
