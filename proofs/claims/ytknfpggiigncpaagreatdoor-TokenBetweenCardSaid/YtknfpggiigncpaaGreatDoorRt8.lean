/- How long a text's tokens are. -/
import Derived.Test.YtknfpggiigncpaaGreatDoorTb2
set_option linter.unusedVariables false
set_option linter.unusedSimpArgs false
namespace Go.Proofs.YtknfpggiigncpaaGreatDoor.C
open Go.RowKit Go.Proofs.YtknfpggiigncpaaGreatDoor.P Go.Proofs.YtknfpggiigncpaaGreatDoorW.PrintWords

theorem putT_mem {xs : List S44} {t y : S44} (h : y ∈ putT xs t) : y ∈ xs ∨ y = t := by
  unfold putT at h
  split at h
  · exact .inl h
  · simpa using h
theorem tk1_attrs {s : ByteArray} {p q : Nat} {xs ys : List S44} (hp : p < s.size) (h : tk1T s p xs = .ok (q, ys)) : ∀ y ∈ ys, y ∈ xs ∨ y.f3.length ≤ s.size := by
  have hrl := rs_len s p
  have hfi := formI_le (rs s p)
  unfold tk1T at h
  split at h
  · unfold form1R form1T at h
    cases hu : untilT s (p + 4) [45, 45, 62] with
    | error x => rw [hu] at h; cases h
    | ok x =>
      rw [hu] at h
      simp only at h
      split at h
      · cases h
      · injection h with h
        injection h with h1 h2
        subst h2
        exact fun y hy => .inl hy
  · unfold form2T at h
    cases hu : untilT s (p + 9) [93, 93, 62] with
    | error x => rw [hu] at h; cases h
    | ok x =>
      rw [hu] at h
      injection h with h
      injection h with h1 h2
      subst h2
      intro y hy
      rcases putT_mem hy with hy | rfl
      · exact .inl hy
      · exact .inr (Nat.zero_le _)
  · unfold form3T at h
    cases hu : nameT s (p + 2) with
    | error x => rw [hu] at h; cases h
    | ok x =>
      rw [hu] at h
      simp only at h
      cases hm : mustT s (x.2 + blankN (rs s x.2)) [62] with
      | error x => rw [hm] at h; cases h
      | ok q2 =>
        rw [hm] at h
        injection h with h
        injection h with h1 h2
        subst h2
        intro y hy
        rcases putT_mem hy with hy | rfl
        · exact .inl hy
        · exact .inr (Nat.zero_le _)
  · unfold form4T at h
    cases hu : nameT s (p + 1) with
    | error x => rw [hu] at h; cases h
    | ok x =>
      obtain ⟨a, q1⟩ := x
      have l1 := nameT_le hu (by omega)
      rw [hu] at h
      simp only at h
      cases ha : attrsT s (s.size + 1 - q1) q1 [] with
      | error x => rw [ha] at h; cases h
      | ok x =>
        obtain ⟨l, q2⟩ := x
        have l2 := attrsT_le s _ _ _ _ _ l1.1 ha
        rw [ha] at h
        simp only at h
        cases hm : mustT s (selfN s q2) [62] with
        | error x => rw [hm] at h; cases h
        | ok q4 =>
          rw [hm] at h
          injection h with h
          injection h with h1 h2
          subst h2
          intro y hy
          rcases putT_mem hy with hy | rfl
          · exact .inl hy
          · refine .inr ?_
            simp at l2
            show l.length ≤ _
            omega
  · unfold textTk at h
    cases hu : plainT (Lib.cut (rs s p) [60]).1 p with
    | error x => rw [hu] at h; cases h
    | ok x =>
      rw [hu] at h
      injection h with h
      injection h with h1 h2
      subst h2
      intro y hy
      rcases putT_mem hy with hy | rfl
      · exact .inl hy
      · exact .inr (Nat.zero_le _)
theorem tk_attrs {s : ByteArray} : ∀ (f p : Nat) (xs ys : List S44), p ≤ s.size → xs.length ≤ p → (∀ y ∈ xs, y.f3.length ≤ s.size) → tkT s f p xs = .ok ys → ys.length ≤ s.size ∧ ∀ y ∈ ys, y.f3.length ≤ s.size
  | 0, p, xs, ys, hp, hl, ha, h => by
    injection h with h
    subst h
    exact ⟨by omega, ha⟩
  | f + 1, p, xs, ys, hp, hl, ha, h => by
    simp only [tkT] at h
    split at h
    · rename_i hps
      cases h1 : tk1T s p xs with
      | error z => rw [h1] at h; cases h
      | ok y =>
        obtain ⟨q, zs⟩ := y
        rw [h1] at h
        have hle := tk1_le hps h1
        have hat := tk1_attrs hps h1
        exact tk_attrs f q zs ys hle.2.1 (by omega) (fun y hy => (hat y hy).elim (ha y) id) h
    · injection h with h
      subst h
      exact ⟨by omega, ha⟩
theorem start_le {s : ByteArray} {q : Nat} (h : startT s = .ok q) : q ≤ s.size := (start_app (x := []) (S := s) (by simp) (.inl rfl) rfl h).1
theorem tokR_bounds (s : ByteArray) (hs : s.size ≤ 3000) : (tokR s).1.length ≤ 3000 ∧ ∀ y ∈ (tokR s).1, y.f3.length ≤ 3000 := by
  by_cases h : (tokR s).2.2 = 0
  · obtain ⟨_, _, hr⟩ := tokR_ok h
    unfold readT at hr
    cases hst : startT s with
    | error z => rw [hst] at hr; cases hr
    | ok q =>
      rw [hst] at hr
      have := tk_attrs _ q [] _ (start_le hst) (Nat.zero_le _) (fun y hy => by cases hy) hr
      exact ⟨by omega, fun y hy => by have := this.2 y hy; omega⟩
  · rw [tokR_no h]
    exact ⟨Nat.zero_le _, fun y hy => by cases hy⟩
theorem tokR_bounds2 (s : ByteArray) (hs : s.size ≤ 1000) : (tokR s).1.length ≤ 3000 ∧ ∀ y ∈ (tokR s).1, y.f3.length ≤ 3000 := tokR_bounds s (by omega)
end Go.Proofs.YtknfpggiigncpaaGreatDoor.C
