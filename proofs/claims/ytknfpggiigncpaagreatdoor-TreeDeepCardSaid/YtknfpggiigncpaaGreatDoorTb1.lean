/- A text's tokens are the same ahead of another text that begins with <, and behind one: plain. -/
import Derived.Test.YtknfpggiigncpaaGreatDoorXTok10
import Derived.Test.YtknfpggiigncpaaGreatDoorCkLaw
set_option linter.unusedVariables false
set_option linter.unusedSimpArgs false
namespace Go.Proofs.YtknfpggiigncpaaGreatDoor.C
open Go.RowKit Go.Proofs.YtknfpggiigncpaaGreatDoor.P Go.Proofs.YtknfpggiigncpaaGreatDoorW.PrintWords

/-- What may stand behind: nothing, or a text that begins with <. -/
def LtX (x : List UInt8) : Prop := x = [] ∨ ∃ y, x = 60 :: y
theorem hp_app : ∀ (t l x : List UInt8), LtX x → (∀ c ∈ t, c ≠ 60) → Lib.hasPrefix (l ++ x) t = Lib.hasPrefix l t
  | [], l, x, _, _ => by simp [Lib.hasPrefix]
  | c :: t, [], x, hx, ht => by
    have hc := ht c (by simp)
    rcases hx with rfl | ⟨y, rfl⟩
    · rfl
    · simp [Lib.hasPrefix, List.isPrefixOf, hc]
  | c :: t, b :: l, x, hx, ht => by
    have ih := hp_app t l x hx (fun d hd => ht d (List.mem_cons_of_mem _ hd))
    unfold Lib.hasPrefix at ih ⊢
    rw [List.cons_append]
    simp only [List.isPrefixOf, ih]
theorem hp_app1 (t : List UInt8) (b : UInt8) (l x : List UInt8) (hx : LtX x) (ht : ∀ c ∈ t, c ≠ 60) : Lib.hasPrefix (b :: l ++ x) (60 :: t) = Lib.hasPrefix (b :: l) (60 :: t) := by
  have ih := hp_app t l x hx ht
  unfold Lib.hasPrefix at ih ⊢
  rw [List.cons_append]
  simp only [List.isPrefixOf, ih]
theorem index_app (l x t : List UInt8) (hx : LtX x) (ht : ∀ c ∈ t, c ≠ 60) (h : 0 ≤ Lib.index l t) : Lib.index (l ++ x) t = Lib.index l t := by
  rcases Lib.index_spec l t with ⟨h1, _⟩ | ⟨i, h1, h2, h3, h4⟩
  · omega
  · rw [h1]
    refine Lib.index_first (by rw [List.length_append]; omega) ?_ ?_
    · unfold Lib.occAt at h3 ⊢
      rw [List.drop_append_of_le_length h2]
      exact (hp_app t _ x hx ht).trans h3
    · intro j hj
      have := h4 j hj
      unfold Lib.occAt at this ⊢
      rw [List.drop_append_of_le_length (by omega)]
      exact (hp_app t _ x hx ht).trans this
theorem cut_app (l x t : List UInt8) (hx : LtX x) (ht : ∀ c ∈ t, c ≠ 60) (h : (Lib.cut l t).2.2 = true) : (Lib.cut (l ++ x) t).2.2 = true ∧ (Lib.cut (l ++ x) t).1 = (Lib.cut l t).1 := by
  unfold Lib.cut at h ⊢
  by_cases h0 : 0 ≤ Lib.index l t
  · have hr := Lib.index_room l t h0
    rw [index_app l x t hx ht h0, if_pos h0, if_pos h0]
    refine ⟨rfl, ?_⟩
    exact List.take_append_of_le_length (by omega)
  · rw [if_neg h0] at h
    cases h
theorem tw_app (f : UInt8 → Bool) (hf : f 60 = false) : ∀ (l x : List UInt8), LtX x → (l ++ x).takeWhile f = l.takeWhile f
  | [], x, hx => by
    rcases hx with rfl | ⟨y, rfl⟩
    · rfl
    · simp [hf]
  | b :: l, x, hx => by
    have ih := tw_app f hf l x hx
    rw [List.cons_append, List.takeWhile_cons, List.takeWhile_cons, ih]
/-- A place in a text, and one in another one from which it goes on alike. -/
structure Sim (s : ByteArray) (p : Nat) (S : ByteArray) (P : Nat) (x : List UInt8) : Prop where
  lt : LtX x
  le : p ≤ s.size
  eq : rs S P = rs s p ++ x
  big : P ≤ S.size
theorem Sim.len {s S : ByteArray} {p P : Nat} {x : List UInt8} (h : Sim s p S P x) : S.size - P = s.size - p + x.length := by
  have := congrArg List.length h.eq
  rw [List.length_append, rs_len, rs_len] at this
  exact this
theorem Sim.step {s S : ByteArray} {p P : Nat} {x : List UInt8} (h : Sim s p S P x) (k : Nat) (hk : p + k ≤ s.size) : Sim s (p + k) S (P + k) x := by
  have hl := h.len
  have hb := h.big
  have hp := h.le
  refine ⟨h.lt, hk, ?_, by omega⟩
  have h1 : rs S (P + k) = (rs S P).drop k := by unfold rs; rw [List.drop_drop]
  have h2 : rs s (p + k) = (rs s p).drop k := by unfold rs; rw [List.drop_drop]
  rw [h1, h2, h.eq, List.drop_append_of_le_length (by rw [rs_len]; omega)]
section
variable {s S : ByteArray} {p P : Nat} {x : List UInt8}
theorem sim_until (h : Sim s p S P x) {t a : List UInt8} {q : Nat} (ht : ∀ c ∈ t, c ≠ 60) (hr : untilT s p t = .ok (a, q)) : ∃ k, q = p + k ∧ p + k ≤ s.size ∧ t.length ≤ k ∧ untilT S P t = .ok (a, P + k) := by
  have hle := untilT_le hr h.le
  unfold untilT at hr ⊢
  rw [h.eq]
  split at hr
  · rename_i h1
    obtain ⟨h2, h3⟩ := cut_app (rs s p) x t h.lt ht h1
    injection hr with hr
    injection hr with ha hq
    rw [if_pos h2, h3, ha]
    rw [ha] at hq
    exact ⟨a.length + t.length, hq.symm, by omega, by omega, rfl⟩
  · cases hr
end
end Go.Proofs.YtknfpggiigncpaaGreatDoor.C
