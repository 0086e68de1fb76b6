/- Great and count, as they are printed: plain. -/
import Derived.Test.YtknfpggiigncpaaGreatDoorAx1
import Derived.Test.YtknfpggiigncpaaGreatDoorEx3
import Derived.Test.YtknfpggiigncpaaGreatDoorBx5
import Derived.Test.YtknfpggiigncpaaGreatDoorOt1
import Derived.Test.YtknfpggiigncpaaGreatDoorXUnesc
import Derived.Laws.DeepBits32
import Derived.Laws.Bits64b
import Derived.Laws.Runes
import Derived.Lib.Strings
import Derived.Test.YtknfpggiigncpaaGreatDoorEx1
set_option linter.unusedVariables false
set_option linter.unusedSimpArgs false
section
namespace Go.Proofs.YtknfpggiigncpaaGreatDoor.E
open Go.RowKit YtknfpggiigncpaaGreatDoorW.PrintWords YtknfpggiigncpaaGreatDoorW.PrintLast YtknfpggiigncpaaGreatDoorW.PrintMore
attribute [local go_sem] max2_int min2_int max_two min_two max_three min_three max_four min_four
/-! ### remitterref11_name: function 78 -/
end Go.Proofs.YtknfpggiigncpaaGreatDoor.E
end
section
namespace Go.Proofs.YtknfpggiigncpaaGreatDoor.E
open P B Go.RowKit YtknfpggiigncpaaGreatDoorW.PrintWords YtknfpggiigncpaaGreatDoorW.PrintLast YtknfpggiigncpaaGreatDoorW.PrintMore
attribute [local go_sem] max2_int min2_int max_two min_two max_three min_three max_four min_four
/-! ### remitterref11_shape: function 44 -/
end Go.Proofs.YtknfpggiigncpaaGreatDoor.E
end
section
namespace Go.Proofs.YtknfpggiigncpaaGreatDoor.E
open P B Go.RowKit YtknfpggiigncpaaGreatDoorW.PrintWords YtknfpggiigncpaaGreatDoorW.PrintLast YtknfpggiigncpaaGreatDoorW.PrintMore
attribute [local go_sem] max2_int min2_int max_two min_two max_three min_three max_four min_four
/-! ### remitterref11_count: function 45 -/
/-! ### remitterref11_May: function 17 -/
/-! ### remitterref11_element: function 43 -/
/-! ### remitterref11_Write: function 16 -/
end Go.Proofs.YtknfpggiigncpaaGreatDoor.E
end
section
namespace Go.Proofs.YtknfpggiigncpaaGreatDoor.B
open Go.RowKit P YtknfpggiigncpaaGreatDoorW.PrintWords
def Ev {α : Type} (f : Nat → Option α) (r : α) : Prop := ∃ K, ∀ k, K ≤ k → f k = some r
theorem ba_ext {a b : ByteArray} (h : a.data.toList = b.data.toList) : a = b := ByteArray.ext (Array.toList_inj.1 h)
theorem ba_app (a b : ByteArray) : (a ++ b).data.toList = a.data.toList ++ b.data.toList := by simp
theorem drop_at (s : ByteArray) (i : Nat) (h : i < s.size) : s.data.toList.drop i = s[i] :: s.data.toList.drop (i + 1) := by
 have hl : i < s.data.toList.length := by simpa using h
 rw [List.drop_eq_getElem_cons hl]
 rfl
theorem bt_of (s : ByteArray) (i : Nat) (h : i < s.size) : bt s (i : Int) = (s[i].toNat : Int) := by
 unfold bt
 rw [dif_pos (by simpa using h)]
 rfl
theorem w_succ (i : Nat) (h : i < 4611686018427387904) : wrap64 ((i : Int) + 1) = ((i + 1 : Nat) : Int) := by unfold wrap64; omega
theorem toL (s : ByteArray) : s.toList = s.data.toList := by
 exact Lib.toList_data s
theorem ext_list (s : ByteArray) (i j : Nat) : (s.extract i j).data.toList = (s.data.toList.drop i).take (j - i) := by
 rw [ByteArray.data_extract, Array.toList_extract]
theorem sz_list (s : ByteArray) : s.size = s.data.toList.length := by simp
/-! The reference's size of a character. -/
/-! The reference's characters. -/
/-! The reference's code of a piece. -/
/-! References. -/
/-! The reference's Unescape. -/
theorem escape_f (s : ByteArray) (h : s.size * 6 ≤ 140737488355328) : text_Escape.f s = some ⟨(escL s.data.toList).toArray⟩ := by
 unfold text_Escape.f
 rw [if_pos h]
end Go.Proofs.YtknfpggiigncpaaGreatDoor.B
end
section
namespace Go.Proofs.YtknfpggiigncpaaGreatDoor.E
open Go.RowKit P B
open YtknfpggiigncpaaGreatDoorW.PrintWords
def sized (v : S24) : Prop := v.f0.size ≤ 5000 ∧ v.f1.size ≤ 5000 ∧ v.f2.length ≤ 1000000
def smallT : Nat → S24 → Prop
 | 0, v => sized v
 | d + 1, v => sized v ∧ ∀ k ∈ v.f2, smallT d k
theorem smallT.top : ∀ {d : Nat} {v : S24}, smallT d v → sized v
 | 0, _, h => h
 | _ + 1, _, h => h.1
theorem rd_get (l : List S24) (i : Nat) (h : i < l.length) : rd_T24 l (i : Int) = l[i] := by
 unfold rd_T24
 rw [Int.toNat_natCast, List.getD_eq_getElem?_getD, List.getElem?_eq_getElem h]
 rfl
theorem take_succ_at (l : List S24) (i : Nat) (h : i < l.length) : l.take (i + 1) = l.take i ++ [l[i]] := by
 rw [List.take_add_one, List.getElem?_eq_getElem h]
 rfl
def cntL : List S24 → Nat
 | [] => 0
 | ⟨a, b, q⟩ :: l => 1 + cntL q + cntL l
def smallL : List S24 → Prop
 | [] => True
 | ⟨a, b, q⟩ :: l => a.size + b.size < 2000 ∧ smallL q ∧ smallL l
def fitL : List S24 → Prop
 | [] => True
 | ⟨a, b, q⟩ :: l => a.size ≤ 140737488355328 ∧ b.size ≤ 140737488355328 ∧ q.length ≤ 140737488355328 ∧ fitL q ∧ fitL l
theorem w_id (x : Int) (h0 : 0 ≤ x) (h1 : x < 4611686018427387904) : wrap64 x = x := by unfold wrap64; omega
theorem rd_pre (p l : List S24) (x : S24) : rd_T24 (p ++ x :: l) (p.length : Int) = x := by
 rw [rd_get _ _ (by simp)]
 simp
theorem many_ev : ∀ (l p : List S24) (n : Nat), fitL l → (p ++ l).length ≤ 140737488355328 → n ≤ 562949953421312 →
  ∃ r : Nat, n ≤ r ∧ r ≤ 562949953421312 ∧ Ev (fun k => remitterlaw10_many.l0 k (p ++ l) (n : Int) (p.length : Int)) (r : Int) ∧ (r < 2000 → r = n + cntL l ∧ smallL l)
 | [], p, n, hf, hl, hn => by
  refine ⟨n, Nat.le_refl _, hn, ⟨1, fun k hk => ?_⟩, fun _ => ⟨by simp [cntL], by simp [smallL]⟩⟩
  obtain ⟨k, rfl⟩ : ∃ j, k = j + 1 := ⟨k - 1, by omega⟩
  simp only [remitterlaw10_many.l0]
  rw [if_neg (by simp)]
 | ⟨a, b, q⟩ :: l, p, n, hf, hl, hn => by
  have hL : (p ++ (⟨a, b, q⟩ : S24) :: l).length = p.length + l.length + 1 := by simp; omega
  by_cases h2 : n < 2000
  ·
   simp only [fitL] at hf
   obtain ⟨ha, hb, hq, hfq, hfl⟩ := hf
   obtain ⟨m, hm1, hm2, hm3, hm4⟩ := many_ev q [] (n + 1 + (a.size + b.size) / 2000 * 2000) hfq (by simpa using hq) (by omega)
   obtain ⟨r, hr1, hr2, hr3, hr4⟩ := many_ev l (p ++ [⟨a, b, q⟩]) m hfl (by rw [List.append_assoc]; exact hl) hm2
   obtain ⟨K1, hK1⟩ := hm3
   obtain ⟨K2, hK2⟩ := hr3
   refine ⟨r, by omega, hr2, ⟨K1 + K2 + 2, fun k hk => ?_⟩, fun h => ?_⟩
   ·
    obtain ⟨k, rfl⟩ : ∃ j, k = j + 2 := ⟨k - 2, by omega⟩
    have h1 := hK1 k (by omega)
    have h3 := hK2 (k + 1) (by omega)
    simp only [List.nil_append, List.length_nil] at h1
    simp only [List.append_assoc, List.singleton_append, List.length_append, List.length_singleton] at h3
    dsimp only
    rw [remitterlaw10_many.l0, if_pos (by rw [hL]; omega), if_pos (by omega), if_pos (by omega), rd_pre]
    have e : wrap64 (wrap64 ((n : Int) + 1) + wrap64 (wrap64 (Int.tdiv (wrap64 ((a.size : Int) + (b.size : Int))) 2000) * 2000)) = ((n + 1 + (a.size + b.size) / 2000 * 2000 : Nat) : Int) := by
     have hz : (((a.size + b.size) / 2000 * 2000 : Nat) : Int) = ((a.size : Int) + (b.size : Int)) / 2000 * 2000 := by omega
     have hz2 : (a.size + b.size) / 2000 * 2000 ≤ a.size + b.size := Nat.div_mul_le_self _ _
     rw [w_id ((a.size : Int) + (b.size : Int)) (by omega) (by omega), Int.tdiv_eq_ediv_of_nonneg (by omega), w_id (((a.size : Int) + (b.size : Int)) / 2000) (by omega) (by omega), ← hz]
     generalize (a.size + b.size) / 2000 * 2000 = z at *
     rw [w_id (z : Int) (by omega) (by omega), w_id ((n : Int) + 1) (by omega) (by omega), w_id _ (by omega) (by omega)]
     omega
    dsimp only
    rw [e, remitterlaw10_many.f]
    have h1' : remitterlaw10_many.l0 k q ((n + 1 + (a.size + b.size) / 2000 * 2000 : Nat) : Int) 0 = some (m : Int) := h1
    rw [h1', Option.bind_some, w_succ p.length (by simp at hl; omega)]
    exact h3
   ·
    obtain ⟨e1, s1⟩ := hr4 h
    obtain ⟨e2, s2⟩ := hm4 (by omega)
    simp only [cntL, smallL]
    exact ⟨by omega, by omega, s2, s1⟩
  ·
   refine ⟨n, Nat.le_refl _, hn, ⟨1, fun k hk => ?_⟩, fun h => absurd h h2⟩
   obtain ⟨k, rfl⟩ : ∃ j, k = j + 1 := ⟨k - 1, by omega⟩
   dsimp only
   rw [remitterlaw10_many.l0, if_pos (by rw [hL]; omega), if_neg (by omega)]
termination_by l => SizeOf.sizeOf l
theorem great_ev (l : List S24) (hf : fitL l) (hl : l.length ≤ 140737488355328) : ∃ g : Bool, Ev (fun k => remitterlaw10_Great.f k l) g ∧ (g = false → cntL l ≤ 1000 ∧ smallL l) := by
 obtain ⟨r, _, hr, ⟨K, hK⟩, h⟩ := many_ev l [] 0 hf (by simpa using hl) (by omega)
 refine ⟨decide ((r : Int) > 1000), ⟨K + 1, fun k hk => ?_⟩, fun hg => ?_⟩
 ·
  obtain ⟨k, rfl⟩ : ∃ j, k = j + 1 := ⟨k - 1, by omega⟩
  have h1 : remitterlaw10_many.l0 k l 0 0 = some (r : Int) := hK k (by omega)
  dsimp only
  rw [remitterlaw10_Great.f, remitterlaw10_many.f, h1, Option.bind_some]
 ·
  have := of_decide_eq_false hg
  obtain ⟨e, s⟩ := h (by omega)
  exact ⟨by omega, s⟩
theorem len_cnt : ∀ l : List S24, l.length ≤ cntL l
 | [] => by simp
 | ⟨a, b, q⟩ :: l => by
  have := len_cnt l
  simp only [cntL, List.length_cons]
  omega
theorem cnt_mem : ∀ (l : List S24) (k : S24), k ∈ l → 1 + cntL k.f2 ≤ cntL l
 | [], k, h => by cases h
 | ⟨a, b, q⟩ :: l, k, h => by
  simp only [cntL]
  rcases List.mem_cons.1 h with rfl | h
  ·
   simp only; omega
  ·
   have := cnt_mem l k h; omega
theorem small_mem : ∀ (l : List S24) (k : S24), k ∈ l → smallL l → k.f0.size + k.f1.size < 2000 ∧ smallL k.f2
 | [], k, h, _ => by cases h
 | ⟨a, b, q⟩ :: l, k, h, hs => by
  simp only [smallL] at hs
  rcases List.mem_cons.1 h with rfl | h
  ·
   exact ⟨hs.1, hs.2.1⟩
  ·
   exact small_mem l k h hs.2.2
theorem smallT_of : ∀ (d : Nat) (v : S24), v.f0.size + v.f1.size < 2000 → smallL v.f2 → cntL v.f2 ≤ 1000 → smallT d v
 | 0, v, h1, h2, h3 => ⟨by omega, by omega, by have := len_cnt v.f2; omega⟩
 | d + 1, v, h1, h2, h3 => ⟨⟨by omega, by omega, by have := len_cnt v.f2; omega⟩, fun k hk => by
   obtain ⟨g1, g2⟩ := small_mem _ k hk h2
   have := cnt_mem _ k hk
   exact smallT_of d k g1 g2 (by omega)⟩
end Go.Proofs.YtknfpggiigncpaaGreatDoor.E
end
