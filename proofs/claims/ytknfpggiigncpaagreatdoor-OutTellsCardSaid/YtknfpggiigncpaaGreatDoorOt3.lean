/- Great and count, as they are printed: plain. -/
import Derived.Test.YtknfpggiigncpaaGreatDoorOt2
set_option linter.unusedVariables false
set_option linter.unusedSimpArgs false
namespace Go.Proofs.YtknfpggiigncpaaGreatDoor.E
open Go.RowKit Go.Proofs.YtknfpggiigncpaaGreatDoor.P Go.Proofs.YtknfpggiigncpaaGreatDoor.B
open Go.Proofs.YtknfpggiigncpaaGreatDoorW.PrintWords hiding Ev

/-- How many parts. -/
def cntL : List S24 → Nat
  | [] => 0
  | ⟨a, b, q⟩ :: l => 1 + cntL q + cntL l
/-- Names and texts of less than 2,000 bytes. -/
def smallL : List S24 → Prop
  | [] => True
  | ⟨a, b, q⟩ :: l => a.size + b.size < 2000 ∧ smallL q ∧ smallL l
/-- What a machine holds. -/
def fitL : List S24 → Prop
  | [] => True
  | ⟨a, b, q⟩ :: l => a.size ≤ 140737488355328 ∧ b.size ≤ 140737488355328 ∧ q.length ≤ 140737488355328 ∧ fitL q ∧ fitL l
theorem w_id (x : Int) (h0 : 0 ≤ x) (h1 : x < 4611686018427387904) : wrap64 x = x := by unfold wrap64; omega
theorem rd_pre (p l : List S24) (x : S24) : rd_T24 (p ++ x :: l) (p.length : Int) = x := by
  rw [rd_get _ _ (by simp)]
  simp
theorem many_ev : ∀ (l p : List S24) (n : Nat), fitL l → (p ++ l).length ≤ 140737488355328 → n ≤ 562949953421312 →
    ∃ r : Nat, n ≤ r ∧ r ≤ 562949953421312 ∧ Ev (fun k => remitterlaw10_many.l0 k (p ++ l) (n : Int) (p.length : Int)) (r : Int) ∧ (r < 2000 → r = n + cntL l ∧ smallL l)
  | [], p, n, hf, hl, hn => by
    refine ⟨n, Nat.le_refl _, hn, ⟨1, fun k hk => ?_⟩, fun _ => ⟨by simp [cntL], by simp [smallL]⟩⟩
    obtain ⟨k, rfl⟩ : ∃ j, k = j + 1 := ⟨k - 1, by omega⟩
    simp only [remitterlaw10_many.l0]
    rw [if_neg (by simp)]
  | ⟨a, b, q⟩ :: l, p, n, hf, hl, hn => by
    have hL : (p ++ (⟨a, b, q⟩ : S24) :: l).length = p.length + l.length + 1 := by simp; omega
    by_cases h2 : n < 2000
    · simp only [fitL] at hf
      obtain ⟨ha, hb, hq, hfq, hfl⟩ := hf
      obtain ⟨m, hm1, hm2, hm3, hm4⟩ := many_ev q [] (n + 1 + (a.size + b.size) / 2000 * 2000) hfq (by simpa using hq) (by omega)
      obtain ⟨r, hr1, hr2, hr3, hr4⟩ := many_ev l (p ++ [⟨a, b, q⟩]) m hfl (by rw [List.append_assoc]; exact hl) hm2
      obtain ⟨K1, hK1⟩ := hm3
      obtain ⟨K2, hK2⟩ := hr3
      refine ⟨r, by omega, hr2, ⟨K1 + K2 + 2, fun k hk => ?_⟩, fun h => ?_⟩
      · obtain ⟨k, rfl⟩ : ∃ j, k = j + 2 := ⟨k - 2, by omega⟩
        have h1 := hK1 k (by omega)
        have h3 := hK2 (k + 1) (by omega)
        simp only [List.nil_append, List.length_nil] at h1
        simp only [List.append_assoc, List.singleton_append, List.length_append, List.length_singleton] at h3
        dsimp only
        rw [remitterlaw10_many.l0, if_pos (by rw [hL]; omega), if_pos (by omega), if_pos (by omega), rd_pre]
        have e : wrap64 (wrap64 ((n : Int) + 1) + wrap64 (wrap64 (Int.tdiv (wrap64 ((a.size : Int) + (b.size : Int))) 2000) * 2000)) = ((n + 1 + (a.size + b.size) / 2000 * 2000 : Nat) : Int) := by
          have hz : (((a.size + b.size) / 2000 * 2000 : Nat) : Int) = ((a.size : Int) + (b.size : Int)) / 2000 * 2000 := by omega
          have hz2 : (a.size + b.size) / 2000 * 2000 ≤ a.size + b.size := Nat.div_mul_le_self _ _
          rw [w_id ((a.size : Int) + (b.size : Int)) (by omega) (by omega), Int.tdiv_eq_ediv_of_nonneg (by omega), w_id (((a.size : Int) + (b.size : Int)) / 2000) (by omega) (by omega), ← hz]
          generalize (a.size + b.size) / 2000 * 2000 = z at *
          rw [w_id (z : Int) (by omega) (by omega), w_id ((n : Int) + 1) (by omega) (by omega), w_id _ (by omega) (by omega)]
          omega
        dsimp only
        rw [e, remitterlaw10_many.f]
        have h1' : remitterlaw10_many.l0 k q ((n + 1 + (a.size + b.size) / 2000 * 2000 : Nat) : Int) 0 = some (m : Int) := h1
        rw [h1', Option.bind_some, w_succ p.length (by simp at hl; omega)]
        exact h3
      · obtain ⟨e1, s1⟩ := hr4 h
        obtain ⟨e2, s2⟩ := hm4 (by omega)
        simp only [cntL, smallL]
        exact ⟨by omega, by omega, s2, s1⟩
    · refine ⟨n, Nat.le_refl _, hn, ⟨1, fun k hk => ?_⟩, fun h => absurd h h2⟩
      obtain ⟨k, rfl⟩ : ∃ j, k = j + 1 := ⟨k - 1, by omega⟩
      dsimp only
      rw [remitterlaw10_many.l0, if_pos (by rw [hL]; omega), if_neg (by omega)]
termination_by l => SizeOf.sizeOf l
theorem great_ev (l : List S24) (hf : fitL l) (hl : l.length ≤ 140737488355328) : ∃ g : Bool, Ev (fun k => remitterlaw10_Great.f k l) g ∧ (g = false → cntL l ≤ 1000 ∧ smallL l) := by
  obtain ⟨r, _, hr, ⟨K, hK⟩, h⟩ := many_ev l [] 0 hf (by simpa using hl) (by omega)
  refine ⟨decide ((r : Int) > 1000), ⟨K + 1, fun k hk => ?_⟩, fun hg => ?_⟩
  · obtain ⟨k, rfl⟩ : ∃ j, k = j + 1 := ⟨k - 1, by omega⟩
    have h1 : remitterlaw10_many.l0 k l 0 0 = some (r : Int) := hK k (by omega)
    dsimp only
    rw [remitterlaw10_Great.f, remitterlaw10_many.f, h1, Option.bind_some]
  · have := of_decide_eq_false hg
    obtain ⟨e, s⟩ := h (by omega)
    exact ⟨by omega, s⟩
theorem len_cnt : ∀ l : List S24, l.length ≤ cntL l
  | [] => by simp
  | ⟨a, b, q⟩ :: l => by
    have := len_cnt l
    simp only [cntL, List.length_cons]
    omega
theorem cnt_mem : ∀ (l : List S24) (k : S24), k ∈ l → 1 + cntL k.f2 ≤ cntL l
  | [], k, h => by cases h
  | ⟨a, b, q⟩ :: l, k, h => by
    simp only [cntL]
    rcases List.mem_cons.1 h with rfl | h
    · simp only; omega
    · have := cnt_mem l k h; omega
theorem small_mem : ∀ (l : List S24) (k : S24), k ∈ l → smallL l → k.f0.size + k.f1.size < 2000 ∧ smallL k.f2
  | [], k, h, _ => by cases h
  | ⟨a, b, q⟩ :: l, k, h, hs => by
    simp only [smallL] at hs
    rcases List.mem_cons.1 h with rfl | h
    · exact ⟨hs.1, hs.2.1⟩
    · exact small_mem l k h hs.2.2
theorem smallT_of : ∀ (d : Nat) (v : S24), v.f0.size + v.f1.size < 2000 → smallL v.f2 → cntL v.f2 ≤ 1000 → smallT d v
  | 0, v, h1, h2, h3 => ⟨by omega, by omega, by have := len_cnt v.f2; omega⟩
  | d + 1, v, h1, h2, h3 => ⟨⟨by omega, by omega, by have := len_cnt v.f2; omega⟩, fun k hk => by
      obtain ⟨g1, g2⟩ := small_mem _ k hk h2
      have := cnt_mem _ k hk
      exact smallT_of d k g1 g2 (by omega)⟩
theorem count_ev : ∀ (l p : List S24) (a b : ByteArray) (n : Nat), n + cntL l ≤ 100000 → (p ++ l).length ≤ 100000 →
    Ev (fun k => remitterref11_count.l0 k (n : Int) (p.length : Int) a b (p ++ l)) ((n + cntL l : Nat) : Int)
  | [], p, a, b, n, hn, hl => by
    refine ⟨1, fun k hk => ?_⟩
    obtain ⟨k, rfl⟩ : ∃ j, k = j + 1 := ⟨k - 1, by omega⟩
    simp only [remitterref11_count.l0]
    rw [if_neg (by simp)]
    simp [cntL]
  | ⟨c, d, q⟩ :: l, p, a, b, n, hn, hl => by
    have hL : (p ++ (⟨c, d, q⟩ : S24) :: l).length = p.length + l.length + 1 := by simp; omega
    simp only [cntL] at hn ⊢
    obtain ⟨K1, hK1⟩ := count_ev q [] c d 1 (by omega) (by have := len_cnt q; simp; omega)
    obtain ⟨K2, hK2⟩ := count_ev l (p ++ [⟨c, d, q⟩]) a b (n + (1 + cntL q)) (by omega) (by rw [List.append_assoc]; exact hl)
    refine ⟨K1 + K2 + 2, fun k hk => ?_⟩
    obtain ⟨k, rfl⟩ : ∃ j, k = j + 2 := ⟨k - 2, by omega⟩
    have h1 : remitterref11_count.l0 k 1 0 c d q = some ((1 + cntL q : Nat) : Int) := hK1 k (by omega)
    have h3 := hK2 (k + 1) (by omega)
    simp only [List.append_assoc, List.singleton_append, List.length_append, List.length_singleton] at h3
    dsimp only
    rw [remitterref11_count.l0, if_pos (by rw [hL]; omega), if_pos (by omega), rd_pre]
    dsimp only
    rw [remitterref11_count.f, h1, Option.bind_some, w_succ p.length (by omega), show wrap64 ((n : Int) + ((1 + cntL q : Nat) : Int)) = ((n + (1 + cntL q) : Nat) : Int) by unfold wrap64; omega, h3]
    rw [show n + (1 + cntL q) + cntL l = n + (1 + cntL q + cntL l) by omega]
termination_by l => SizeOf.sizeOf l
theorem may_ev (v : S24) (h1 : v.f0.size + v.f1.size < 2000) (h2 : smallL v.f2) (h3 : cntL v.f2 ≤ 1000) : Ev (fun k => remitterref11_May.f k v.f0 v.f1 v.f2) (mayP v) := by
  rw [may_both]
  obtain ⟨K1, hK1⟩ := shape_ev 64 (by omega) v (smallT_of 64 v h1 h2 h3)
  obtain ⟨K2, hK2⟩ := count_ev v.f2 [] v.f0 v.f1 1 (by omega) (by have := len_cnt v.f2; simp; omega)
  refine ⟨K1 + K2 + 1, fun k hk => ?_⟩
  obtain ⟨k, rfl⟩ : ∃ j, k = j + 1 := ⟨k - 1, by omega⟩
  have g1 : remitterref11_shape.f (k + 1) v.f0 v.f1 v.f2 64 = some (shapeT 64 v) := hK1 (k + 1) (by omega)
  have g2 : remitterref11_count.l0 k 1 0 v.f0 v.f1 v.f2 = some ((1 + cntL v.f2 : Nat) : Int) := hK2 k (by omega)
  dsimp only
  rw [remitterref11_May.f, g1, Option.bind_some, remitterref11_count.f, g2, Option.bind_some]
  cases shapeT 64 v
  · rfl
  · simp
    omega
end Go.Proofs.YtknfpggiigncpaaGreatDoor.E
