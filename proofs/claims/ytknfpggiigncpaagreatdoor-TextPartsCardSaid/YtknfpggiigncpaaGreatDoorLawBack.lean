/- What is escaped comes back: the plain law. -/
import Derived.Test.YtknfpggiigncpaaGreatDoorCkLaw
import Derived.Test.YtknfpggiigncpaaGreatDoorUnFns
import Derived.Test.YtknfpggiigncpaaGreatDoorPx1
import Derived.Lib.SmallJoins
set_option linter.unusedVariables false
set_option linter.unusedSimpArgs false
namespace Go.Proofs.YtknfpggiigncpaaGreatDoor.P
open Go.RowKit Go.Proofs.YtknfpggiigncpaaGreatDoorW.PrintWords

theorem un_byte (b : UInt8) (r : List UInt8) (pos : Nat) (out : List UInt8) : un (escByte b ++ r) pos out = un r (pos + (escByte b).length) (out ++ [b]) := by
  by_cases he : escByte b = [b]
  · have hb : b ≠ 38 := fun h => by subst h; exact absurd he (by decide)
    rw [he]
    exact un_plain b r pos out hb
  · have hr : (repOf b).isSome = true := by
      cases hr : repOf b with
      | none => rw [escByte_rep, hr] at he; exact absurd rfl he
      | some n => rfl
    have hm := rep_keys8 b hr
    have key : ∀ b ∈ keys8, ∃ i, escByte b = 38 :: (i ++ [59]) ∧ (∀ c ∈ i, c ≠ 59) ∧ i.length + 1 ≤ 13 ∧ refV i = some b.toNat ∧ Lib.encodeRune (b.toNat : Int) = [b] := by
      intro b hb
      simp only [keys8, List.mem_cons, List.not_mem_nil, or_false] at hb
      rcases hb with rfl | rfl | rfl | rfl | rfl | rfl | rfl | rfl
      · exact ⟨[35, 120, 68], rfl, by decide, by decide, by decide, by decide⟩
      · exact ⟨[35, 120, 65], rfl, by decide, by decide, by decide, by decide⟩
      · exact ⟨[35, 120, 57], rfl, by decide, by decide, by decide, by decide⟩
      · exact ⟨[97, 112, 111, 115], rfl, by decide, by decide, by decide, by decide⟩
      · exact ⟨[113, 117, 111, 116], rfl, by decide, by decide, by decide, by decide⟩
      · exact ⟨[103, 116], rfl, by decide, by decide, by decide, by decide⟩
      · exact ⟨[108, 116], rfl, by decide, by decide, by decide, by decide⟩
      · exact ⟨[97, 109, 112], rfl, by decide, by decide, by decide, by decide⟩
    obtain ⟨i, h1, h2, h3, h4, h5⟩ := key b hm
    have hs : ∀ (i q : List UInt8) (n : Nat), (∀ c ∈ i, c ≠ 59) → i.length + 1 ≤ n → semi ((i ++ 59 :: q).take n) = some i := by
      intro i
      induction i with
      | nil =>
        intro q n _ hn
        obtain ⟨n, rfl⟩ : ∃ m, n = m + 1 := ⟨n - 1, by simp at hn; omega⟩
        simp [semi]
      | cons c i ih =>
        intro q n hc hn
        obtain ⟨n, rfl⟩ : ∃ m, n = m + 1 := ⟨n - 1, by simp at hn; omega⟩
        rw [List.cons_append, List.take_succ_cons]
        simp only [semi]
        rw [if_neg (hc c (by simp)), ih q n (fun x hx => hc x (List.mem_cons_of_mem _ hx)) (by simp at hn; omega)]
        rfl
    rw [h1, List.cons_append, List.append_assoc, List.singleton_append, un_ref _ pos out i b.toNat (hs i r 13 h2 h3) h4, h5]
    congr 1
    · rw [show i ++ 59 :: r = (i ++ [59]) ++ r by simp, show i.length + 1 = (i ++ [59]).length by simp, List.drop_left]
    · simp
      omega
theorem un_escL : ∀ (l r : List UInt8) (pos : Nat) (out : List UInt8), un (escL l ++ r) pos out = un r (pos + (escL l).length) (out ++ l)
  | [], r, pos, out => by simp [escL]
  | b :: l, r, pos, out => by
    rw [escL_cons, List.append_assoc, un_byte, un_escL l r]
    congr 1
    · simp; omega
    · simp
theorem escL_clean : ∀ (l : List UInt8), ∀ c ∈ escL l, c ≠ 60 ∧ c ≠ 62 ∧ c ≠ 34 ∧ c ≠ 39 ∧ c ≠ 9 ∧ c ≠ 10 ∧ c ≠ 13
  | [], c, h => by simp [escL] at h
  | b :: l, c, h => by
    rw [escL_cons, List.mem_append] at h
    rcases h with h | h
    · revert h
      unfold escByte
      repeat' split
      all_goals
        intro h
        simp only [List.mem_cons, List.not_mem_nil, or_false] at h
        first
          | (rcases h with rfl | rfl | rfl | rfl | rfl | rfl <;> decide)
          | (rcases h with rfl | rfl | rfl | rfl | rfl <;> decide)
          | (rcases h with rfl | rfl | rfl | rfl <;> decide)
          | (subst h; refine ⟨?_, ?_, ?_, ?_, ?_, ?_, ?_⟩ <;> assumption)
    · exact escL_clean l c h
theorem escape_f (s : ByteArray) (h : s.size * 6 ≤ 140737488355328) : text_Escape.f s = some ⟨(escL s.data.toList).toArray⟩ := by
  unfold text_Escape.f
  rw [if_pos h]
theorem unescape_f (s : ByteArray) (h : s.size ≤ 140737488351232) : text_Unescape.f s = some (⟨(un s.data.toList 0 []).1.toArray⟩, ((un s.data.toList 0 []).2.1 : Int), (un s.data.toList 0 []).2.2) := by
  unfold text_Unescape.f
  rw [if_pos h]
  unfold un
  rw [show s.data.toList.length = s.size by simp]
theorem wakes_true : remitterlaw08_wakes.f = some true := by kernel_rfl

theorem Lib.ba_append (a b : ByteArray) : (a ++ b).data.toList = a.data.toList ++ b.data.toList := by simp
theorem back_loop (x0 : ByteArray) (l : List UInt8) (x5 : ByteArray) (h5 : x5 = ⟨(escL l).toArray⟩) (h0 : x0.data.toList = l) (hs : x0.size ≤ 1000) :
    ∀ (d i k : Nat), i + d = (escL l).length → d < k → remitterlaw08_TextBack.l0 k x0 x5 (i : Int) = some true
  | d, i, 0, _, hk => by omega
  | 0, i, k + 1, hi, _ => by
    have hsz : x5.size = (escL l).length := by rw [h5]; rfl
    have hl : l.length = x0.size := by rw [← h0]; simp
    have hle := (escL_len l).2
    simp only [remitterlaw08_TextBack.l0]
    rw [if_neg (by omega), check_f x0 (by omega), check_f x5 (by omega), Option.bind_some, Option.bind_some, wakes_true, if_pos]
    · rfl
    · rw [h0, h5]
      exact (ck_esc _ l (Nat.le_refl _)).symm
  | d + 1, i, k + 1, hi, hk => by
    have hsz : x5.size = (escL l).length := by rw [h5]; rfl
    have hlt : i < (escL l).length := by omega
    have hl : l.length = x0.size := by rw [← h0]; simp
    have hle := (escL_len l).2
    have hbt : bt x5 (i : Int) = ((escL l)[i]'hlt).toNat := by
      unfold bt
      rw [dif_pos (by omega)]
      congr 2
      simp only [Int.toNat_natCast]
      subst h5
      rfl
    have hc := escL_clean l _ (List.getElem_mem hlt)
    have hne : ∀ (n : UInt8) (z : Int), (n.toNat : Int) = z → (escL l)[i]'hlt ≠ n → ¬ ((((escL l)[i]'hlt).toNat : Int) = z) := fun n z hz h e => h (UInt8.toNat_inj.1 (by omega))
    simp only [remitterlaw08_TextBack.l0]
    rw [if_pos (by omega), if_pos (by omega), hbt, if_neg (hne 60 60 rfl hc.1), if_neg (hne 62 62 rfl hc.2.1), if_neg (hne 34 34 rfl hc.2.2.1), if_neg (hne 39 39 rfl hc.2.2.2.1), if_neg (hne 9 9 rfl hc.2.2.2.2.1), if_neg (hne 10 10 rfl hc.2.2.2.2.2.1), if_neg (hne 13 13 rfl hc.2.2.2.2.2.2)]
    have hw : wrap64 ((i : Int) + 1) = ((i + 1 : Nat) : Int) := by unfold wrap64; omega
    rw [hw]
    exact back_loop x0 l x5 h5 h0 hs d (i + 1) k (by omega) (by omega)

theorem TextBack_pure : remitterlaw08_TextBack.Pure := by
  intro a0 a1 _ _
  refine ⟨(escL a0.data.toList).length + 3, ?_⟩
  have e0 : a0.data.toList.length = a0.size := by simp
  have e1 : a1.data.toList.length = a1.size := by simp
  unfold remitterlaw08_TextBack.f
  by_cases h0 : a0.size > 1000
  · rw [if_pos (by omega)]
    simp only [remitterlaw08_TextBack.j0, if_true, wakes_true]
    rfl
  · rw [if_neg (by omega)]
    by_cases h1 : a1.size > 1000
    · rw [decide_eq_true (by omega)]
      simp only [remitterlaw08_TextBack.j0, if_true, wakes_true]
      rfl
    · rw [decide_eq_false (by omega)]
      have l0 := escL_len a0.data.toList
      have l1 := escL_len a1.data.toList
      have hun := un_escL a0.data.toList [] 0 []
      rw [List.append_nil, un_nil] at hun
      have hX : (⟨(escL a0.data.toList).toArray⟩ : ByteArray).data.toList = escL a0.data.toList := by simp
      have hXs : (⟨(escL a0.data.toList).toArray⟩ : ByteArray).size = (escL a0.data.toList).length := rfl
      have hYs : (⟨(escL a1.data.toList).toArray⟩ : ByteArray).size = (escL a1.data.toList).length := rfl
      have happ : (a0 ++ a1).data.toList = a0.data.toList ++ a1.data.toList := Lib.ba_append a0 a1
      have happs : (a0 ++ a1).size = a0.size + a1.size := by simp
      have hXY : (⟨(escL a0.data.toList).toArray⟩ : ByteArray) ++ ⟨(escL a1.data.toList).toArray⟩ = ⟨(escL (a0 ++ a1).data.toList).toArray⟩ := by
        apply ByteArray.ext
        apply Array.toList_inj.1
        rw [Lib.ba_append, happ, escL_append]
      simp only [remitterlaw08_TextBack.j0, Bool.false_eq_true, if_false]
      rw [escape_f a0 (by omega), Option.bind_some, unescape_f _ (by rw [hXs]; omega), Option.bind_some, hX, hun]
      rw [if_pos rfl, if_pos (by simp [hXs]), if_pos (by simp), escape_f a1 (by omega), Option.bind_some, if_pos (by rw [hXs, hYs]; omega), if_pos (by omega), escape_f (a0 ++ a1) (by omega), Option.bind_some, hXY, if_pos rfl]
      rw [decide_eq_false (by rw [hXs]; omega)]
      simp only [remitterlaw08_TextBack.j1, Bool.false_eq_true, if_false]
      exact back_loop a0 _ _ rfl rfl (by omega) (escL a0.data.toList).length 0 _ (by omega) (by omega)
end Go.Proofs.YtknfpggiigncpaaGreatDoor.P
