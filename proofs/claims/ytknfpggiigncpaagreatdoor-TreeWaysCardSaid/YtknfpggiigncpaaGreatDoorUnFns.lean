/- text.Unescape as a plain function: its laws. -/
import Derived.Test.YtknfpggiigncpaaGreatDoorAx0
import Derived.Lib.IndexMore
import Derived.Lib.Bytealg
set_option linter.unusedVariables false
set_option linter.unusedSimpArgs false
namespace Go.Proofs.YtknfpggiigncpaaGreatDoor.P
theorem semi_len : ∀ (l i : List UInt8), semi l = some i → i.length < l.length
 | [], i, h => by simp [semi] at h
 | b :: r, i, h => by
  unfold semi at h
  split at h
  ·
   obtain rfl := Option.some.inj h; simp
  ·
   cases hr : semi r with
   | none => rw [hr] at h; cases h
   | some j =>
    rw [hr] at h
    obtain rfl := Option.some.inj h
    have := semi_len r j hr
    simp
    omega
theorem unL_fuel : ∀ (n f g : Nat) (l : List UInt8) (pos : Nat) (out : List UInt8), l.length ≤ n → l.length < f → l.length < g → unL f l pos out = unL g l pos out
 | n, 0, _, _, _, _, _, h, _ => by omega
 | n, _, 0, _, _, _, _, _, h => by omega
 | n, f + 1, g + 1, [], pos, out, _, _, _ => rfl
 | 0, f + 1, g + 1, b :: r, pos, out, hn, _, _ => by simp at hn
 | n + 1, f + 1, g + 1, b :: r, pos, out, hn, hf, hg => by
  simp only [List.length_cons] at hn hf hg
  simp only [unL]
  split
  ·
   split
   ·
    rfl
   ·
    rename_i i c he
    exact unL_fuel n f g _ _ _ (by simp; omega) (by simp; omega) (by simp; omega)
  ·
   exact unL_fuel n f g _ _ _ (by omega) (by omega) (by omega)
def un (l : List UInt8) (pos : Nat) (out : List UInt8) : List UInt8 × Nat × Int := unL (l.length + 1) l pos out
theorem un_eq (f : Nat) (l : List UInt8) (pos : Nat) (out : List UInt8) (h : l.length < f) : unL f l pos out = un l pos out := unL_fuel l.length f _ l pos out (Nat.le_refl _) h (by omega)
theorem un_nil (pos : Nat) (out : List UInt8) : un [] pos out = (out, pos, 0) := rfl
theorem un_plain (b : UInt8) (r : List UInt8) (pos : Nat) (out : List UInt8) (h : b ≠ 38) : un (b :: r) pos out = un r (pos + 1) (out ++ [b]) := by
 unfold un
 simp only [unL, if_neg h, List.length_cons]
theorem un_bad (r : List UInt8) (pos : Nat) (out : List UInt8) (h : (semi (r.take 13)).bind (fun i => refV i) = none) : un (38 :: r) pos out = ([], pos, 22) := by
 unfold un
 simp only [unL, if_true]
 cases hs : semi (r.take 13) with
 | none => rfl
 | some i =>
  rw [hs] at h
  have h' : refV i = none := h
  simp [h']
theorem un_ref (r : List UInt8) (pos : Nat) (out i : List UInt8) (c : Nat) (hs : semi (r.take 13) = some i) (hr : refV i = some c) : un (38 :: r) pos out = un (r.drop (i.length + 1)) (pos + i.length + 2) (out ++ Lib.encodeRune (c : Int)) := by
 unfold un
 rw [List.length_cons]
 simp only [unL, if_true, hs, hr, Option.bind_some, Option.map_some]
 exact un_eq _ _ _ _ (by simp; omega)
theorem un_skip : ∀ (p r : List UInt8) (pos : Nat) (out : List UInt8), (∀ b ∈ p, b ≠ 38) → un (p ++ r) pos out = un r (pos + p.length) (out ++ p)
 | [], r, pos, out, _ => by simp
 | b :: p, r, pos, out, h => by
  rw [List.cons_append, un_plain _ _ _ _ (h b (by simp)), un_skip p r _ _ (fun x hx => h x (List.mem_cons_of_mem _ hx))]
  congr 1
  ·
   simp; omega
  ·
   simp
theorem un_all (p : List UInt8) (pos : Nat) (out : List UInt8) (h : ∀ b ∈ p, b ≠ 38) : un p pos out = (out ++ p, pos + p.length, 0) := by
 have := un_skip p [] pos out h
 rw [List.append_nil] at this
 rw [this, un_nil]
theorem indexByte_split : ∀ (l : List UInt8) (c : UInt8), (Lib.indexByte l c < 0 → ∀ b ∈ l, b ≠ c) ∧ (∀ k : Nat, Lib.indexByte l c = k → k < l.length ∧ (∀ b ∈ l.take k, b ≠ c) ∧ l.drop k = c :: l.drop (k + 1))
 | [], c => by
  refine ⟨fun _ b hb => (by cases hb), fun k hk => ?_⟩
  simp only [Lib.indexByte] at hk
  omega
 | x :: l, c => by
  obtain ⟨h1, h2⟩ := indexByte_split l c
  unfold Lib.indexByte
  by_cases hx : x = c
  ·
   have hb : (x == c) = true := beq_iff_eq.2 hx
   rw [hb]
   refine ⟨fun h => absurd h (by simp), fun k hk => ?_⟩
   simp at hk
   obtain rfl : k = 0 := by omega
   simp [hx]
  ·
   have hb : (x == c) = false := beq_eq_false_iff_ne.2 hx
   rw [hb]
   simp only [Bool.false_eq_true, if_false]
   by_cases hi : Lib.indexByte l c = -1
   ·
    rw [hi]
    refine ⟨fun _ b hb => ?_, fun k hk => ?_⟩
    ·
     rcases List.mem_cons.1 hb with rfl | hb
     ·
      exact hx
     ·
      exact h1 (by omega) b hb
    ·
     simp at hk
   ·
    have hb2 : (Lib.indexByte l c == -1) = false := beq_eq_false_iff_ne.2 hi
    rw [hb2]
    simp only [Bool.false_eq_true, if_false]
    have hge := Lib.indexByte_ge l c
    refine ⟨fun h => by omega, fun k hk => ?_⟩
    obtain ⟨k, rfl⟩ : ∃ j, k = j + 1 := ⟨k - 1, by omega⟩
    obtain ⟨h3, h4, h5⟩ := h2 k (by omega)
    refine ⟨by simp; omega, fun b hb => ?_, by simpa using h5⟩
    rw [List.take_succ_cons] at hb
    rcases List.mem_cons.1 hb with rfl | hb
    ·
     exact hx
    ·
     exact h4 b hb
theorem refV_len (i : List UInt8) (c : Nat) (h : refV i = some c) : 2 ≤ i.length := by
 match i with
 | [] => simp [refV] at h
 | [b] =>
  exfalso
  unfold refV at h
  split at h
  ·
   rename_i heq; simp at heq
  ·
   rename_i heq; simp at heq; obtain ⟨rfl, rfl⟩ := heq; simp [numRef] at h
  ·
   simp at h
 | _ :: _ :: _ => simp
end Go.Proofs.YtknfpggiigncpaaGreatDoor.P
