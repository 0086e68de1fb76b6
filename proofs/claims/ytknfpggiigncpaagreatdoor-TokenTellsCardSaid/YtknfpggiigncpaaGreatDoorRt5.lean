/- The document's small functions against the program's: plain. -/
import Derived.Test.YtknfpggiigncpaaGreatDoorRt1
import Derived.Test.YtknfpggiigncpaaGreatDoorXTok6
set_option linter.unusedVariables false
set_option linter.unusedSimpArgs false
namespace Go.Proofs.YtknfpggiigncpaaGreatDoor.C
open Go.RowKit Go.Proofs.YtknfpggiigncpaaGreatDoor.P Go.Proofs.YtknfpggiigncpaaGreatDoor.B Go.Proofs.YtknfpggiigncpaaGreatDoorW.PrintWords

theorem nmEnd_le (s : ByteArray) (p : Nat) (hp : p ≤ s.size) : p ≤ nmEnd s p ∧ nmEnd s p ≤ s.size := by
  unfold nmEnd
  have := nmLen_le (rs s p)
  rw [rs_len] at this
  split <;> omega
theorem name_cases (s : ByteArray) (p : Nat) (hp : p ≤ s.size) : (nameT s p = .error (p, 21) ∧ nmEnd s p = p) ∨ (p < nmEnd s p ∧ nmEnd s p ≤ s.size ∧ nameT s p = .ok ((s.extract p (nmEnd s p)).data.toList, nmEnd s p)) := by
  by_cases h : nmLen (rs s p) = 0 ∨ 100 < nmLen (rs s p)
  · refine .inl ⟨by unfold nameT; rw [if_pos h], ?_⟩
    unfold nmEnd
    rcases h with h | h
    · rw [h]; rfl
    · rw [if_pos h]
  · have hn := nmEnd_le s p hp
    obtain ⟨h1, h2⟩ := not_or.1 h
    have hk : nmEnd s p = p + nmLen (rs s p) := by
      unfold nmEnd
      rw [if_neg h2]
    refine .inr ⟨by omega, hn.2, ?_⟩
    unfold nameT
    rw [if_neg h, ext_list, hk, show p + nmLen (rs s p) - p = nmLen (rs s p) by omega]
    rfl
theorem until_find (s : ByteArray) (p : Nat) (t : List UInt8) (hp : p ≤ s.size) : (findZ s p t = -1 ∧ untilT s p t = .error (p, 21)) ∨ (∃ e : Nat, findZ s p t = (e : Int) ∧ p ≤ e ∧ e + t.length ≤ s.size ∧ untilT s p t = .ok ((s.extract p e).data.toList, e + t.length)) := by
  unfold findZ untilT Lib.cut
  by_cases h : 0 ≤ Lib.index (rs s p) t
  · obtain ⟨k, hk⟩ := Int.eq_ofNat_of_zero_le h
    have hr := Lib.index_room (rs s p) t h
    rw [rs_len] at hr
    rw [hk] at hr
    refine .inr ⟨p + k, ?_, by omega, by omega, ?_⟩
    · rw [if_pos h, hk]
      omega
    · simp only [if_pos h]
      rw [if_pos trivial, hk, ext_list]
      have hkl : ((rs s p).take (k : Int).toNat).length = k := by rw [List.length_take, rs_len]; simp; omega
      rw [hkl, show p + k - p = (k : Int).toNat by simp, Nat.add_assoc]
      rfl
  · refine .inl ⟨by rw [if_neg h], ?_⟩
    simp only [if_neg h]
    rfl
theorem quote_bad (s : ByteArray) (v : Nat) : badQ ((rs s v).take 1) ↔ (Lib.hasPrefix (rs s v) [39] = false ∧ Lib.hasPrefix (rs s v) [34] = false) := by
  unfold badQ Lib.hasPrefix
  cases rs s v with
  | nil => simp
  | cons b l =>
    have e1 : ([39] : List UInt8).isPrefixOf (b :: l) = ((39 : UInt8) == b) := by simp [List.isPrefixOf]
    have e2 : ([34] : List UInt8).isPrefixOf (b :: l) = ((34 : UInt8) == b) := by simp [List.isPrefixOf]
    rw [e1, e2, show (b :: l).take 1 = [b] from rfl, beq_eq_false_iff_ne, beq_eq_false_iff_ne]
    constructor
    · rintro ⟨h1, h2⟩
      exact ⟨fun h => h1 (by rw [h]), fun h => h2 (by rw [h])⟩
    · rintro ⟨h1, h2⟩
      exact ⟨fun h => h1 (List.cons.inj h).1.symm, fun h => h2 (List.cons.inj h).1.symm⟩
theorem find_contains (s : ByteArray) (t : List UInt8) : Lib.contains s.data.toList t = decide (0 ≤ findZ s 0 t) := by
  unfold findZ Lib.contains rs
  rw [List.drop_zero]
  by_cases h : 0 ≤ Lib.index s.data.toList t
  · rw [if_pos h, decide_eq_true h, decide_eq_true (by omega)]
  · rw [if_neg h, decide_eq_false h, decide_eq_false (by omega)]
theorem rUnesc (s : ByteArray) (hs : s.size ≤ 5000) (w : World) : Calls Tryz.prog 30 #[.string s] w fun e w' => e = .returned (.tuple #[.string ⟨(un s.data.toList 0 []).1.toArray⟩, .int .i64 ((un s.data.toList 0 []).2.1 : Int), .int .i64 (un s.data.toList 0 []).2.2]) ∧ Below w.heap.size w w' := by
  obtain ⟨K, hK⟩ := un_l0 s hs s.size 0 ⟨#[]⟩ (by omega) (by omega) (Nat.zero_le _)
  refine remitterref08_Unescape.calls K s _ _ _ w ?_
  have := hK K (Nat.le_refl _)
  exact this
theorem head_one (s : ByteArray) (u : Nat) (c : UInt8) (h : Lib.hasPrefix (rs s u) [c] = true) : u < s.size ∧ (s.extract u (u + 1) = ⟨#[c]⟩ ∧ (rs s u).take 1 = [c]) := by
  have hl := Lib.hasPrefix_le h
  rw [rs_len] at hl
  simp at hl
  have hu : u < s.size := by omega
  have ht : (rs s u).take 1 = [c] := by
    unfold Lib.hasPrefix at h
    cases hr : rs s u with
    | nil => rw [hr] at h; cases h
    | cons b l =>
      rw [hr] at h
      have : c = b := by simpa [List.isPrefixOf] using h
      rw [this]
      rfl
  refine ⟨hu, ?_, ht⟩
  apply ba_ext
  rw [ext_list, Nat.add_sub_cancel_left]
  exact ht
end Go.Proofs.YtknfpggiigncpaaGreatDoor.C
