/- Twin and Same, as they are printed: plain. -/
import Derived.Test.YtknfpggiigncpaaGreatDoorOt3
import Derived.Test.YtknfpggiigncpaaGreatDoorEx2
import Derived.Test.YtknfpggiigncpaaGreatDoorEx3
set_option linter.unusedVariables false
set_option linter.unusedSimpArgs false
namespace Go.Proofs.YtknfpggiigncpaaGreatDoor.E
open Go.RowKit Go.Proofs.YtknfpggiigncpaaGreatDoor.P Go.Proofs.YtknfpggiigncpaaGreatDoor.B
open Go.Proofs.YtknfpggiigncpaaGreatDoorW.PrintWords hiding Ev

theorem twin_l0 : ∀ (l p : List S24) (a b c d : ByteArray), cntL l ≤ 100000 → (p ++ l).length ≤ 100000 →
    Ev (fun k => remitterref10_Twin.l0 k (p.length : Int) a b (p ++ l) c d p) (c, d, p ++ l)
  | [], p, a, b, c, d, hn, hl => by
    refine ⟨1, fun k hk => ?_⟩
    obtain ⟨k, rfl⟩ : ∃ j, k = j + 1 := ⟨k - 1, by omega⟩
    simp only [remitterref10_Twin.l0]
    rw [if_neg (by simp), List.append_nil]
  | ⟨x, y, q⟩ :: l, p, a, b, c, d, hn, hl => by
    have hL : (p ++ (⟨x, y, q⟩ : S24) :: l).length = p.length + l.length + 1 := by simp; omega
    simp only [cntL] at hn
    obtain ⟨K1, hK1⟩ := twin_l0 q [] x y x y (by omega) (by have := len_cnt q; simp; omega)
    obtain ⟨K2, hK2⟩ := twin_l0 l (p ++ [⟨x, y, q⟩]) a b c d (by omega) (by rw [List.append_assoc]; exact hl)
    refine ⟨K1 + K2 + 2, fun k hk => ?_⟩
    obtain ⟨k, rfl⟩ : ∃ j, k = j + 2 := ⟨k - 2, by omega⟩
    have h1 : remitterref10_Twin.l0 k 0 x y q x y [] = some (x, y, q) := hK1 k (by omega)
    have h3 := hK2 (k + 1) (by omega)
    simp only [List.append_assoc, List.singleton_append, List.length_append, List.length_singleton] at h3
    dsimp only
    rw [remitterref10_Twin.l0, if_pos (by rw [hL]; omega), if_pos (by omega), rd_pre]
    dsimp only
    rw [remitterref10_Twin.f, h1, Option.bind_some, if_pos (by omega), w_succ p.length (by omega), h3]
termination_by l => SizeOf.sizeOf l
theorem twin_ev (v : S24) (h : cntL v.f2 ≤ 1000) : Ev (fun k => remitterref10_Twin.f k v.f0 v.f1 v.f2) (v.f0, v.f1, v.f2) := by
  obtain ⟨K, hK⟩ := twin_l0 v.f2 [] v.f0 v.f1 v.f0 v.f1 (by omega) (by have := len_cnt v.f2; simp; omega)
  refine ⟨K + 1, fun k hk => ?_⟩
  obtain ⟨k, rfl⟩ : ∃ j, k = j + 1 := ⟨k - 1, by omega⟩
  have h1 : remitterref10_Twin.l0 k 0 v.f0 v.f1 v.f2 v.f0 v.f1 [] = some (v.f0, v.f1, v.f2) := hK k (by omega)
  dsimp only
  rw [remitterref10_Twin.f, h1]
theorem same_l0 : ∀ (l p : List S24) (a b c d : ByteArray), cntL l ≤ 100000 → (p ++ l).length ≤ 100000 →
    Ev (fun k => remitterref10_Same.l0 k (p.length : Int) a b (p ++ l) c d (p ++ l)) true
  | [], p, a, b, c, d, hn, hl => by
    refine ⟨1, fun k hk => ?_⟩
    obtain ⟨k, rfl⟩ : ∃ j, k = j + 1 := ⟨k - 1, by omega⟩
    simp only [remitterref10_Same.l0]
    rw [if_neg (by simp)]
  | ⟨x, y, q⟩ :: l, p, a, b, c, d, hn, hl => by
    have hL : (p ++ (⟨x, y, q⟩ : S24) :: l).length = p.length + l.length + 1 := by simp; omega
    simp only [cntL] at hn
    obtain ⟨K1, hK1⟩ := same_l0 q [] x y x y (by omega) (by have := len_cnt q; simp; omega)
    obtain ⟨K2, hK2⟩ := same_l0 l (p ++ [⟨x, y, q⟩]) a b c d (by omega) (by rw [List.append_assoc]; exact hl)
    refine ⟨K1 + K2 + 3, fun k hk => ?_⟩
    obtain ⟨k, rfl⟩ : ∃ j, k = j + 3 := ⟨k - 3, by omega⟩
    have h1 : remitterref10_Same.l0 k 0 x y q x y q = some true := hK1 k (by omega)
    have h3 := hK2 (k + 2) (by omega)
    simp only [List.append_assoc, List.singleton_append, List.length_append, List.length_singleton] at h3
    dsimp only
    rw [remitterref10_Same.l0, if_pos (by rw [hL]; omega), if_pos (by omega), if_pos (by rw [hL]; omega), rd_pre]
    dsimp only
    rw [remitterref10_Same.f, if_pos rfl, if_pos rfl, bne_self_eq_false, remitterref10_Same.j0, if_neg (by simp), h1, Option.bind_some, if_pos rfl, w_succ p.length (by omega), h3]
termination_by l => SizeOf.sizeOf l
theorem same_ev (v : S24) (h : cntL v.f2 ≤ 1000) : Ev (fun k => remitterref10_Same.f k v.f0 v.f1 v.f2 v.f0 v.f1 v.f2) true := by
  obtain ⟨K, hK⟩ := same_l0 v.f2 [] v.f0 v.f1 v.f0 v.f1 (by omega) (by have := len_cnt v.f2; simp; omega)
  refine ⟨K + 2, fun k hk => ?_⟩
  obtain ⟨k, rfl⟩ : ∃ j, k = j + 2 := ⟨k - 2, by omega⟩
  have h1 : remitterref10_Same.l0 k 0 v.f0 v.f1 v.f2 v.f0 v.f1 v.f2 = some true := hK k (by omega)
  dsimp only
  rw [remitterref10_Same.f, if_pos rfl, if_pos rfl, bne_self_eq_false, remitterref10_Same.j0, if_neg (by simp), h1]
end Go.Proofs.YtknfpggiigncpaaGreatDoor.E
