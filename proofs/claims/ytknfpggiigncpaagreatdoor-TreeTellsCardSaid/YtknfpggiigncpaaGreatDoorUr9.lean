/- Plain: a tree's parts are counted; a tree is the same as itself. -/
import Derived.Test.YtknfpggiigncpaaGreatDoorEx0
import Derived.Test.YtknfpggiigncpaaGreatDoorBx5
import Derived.Test.YtknfpggiigncpaaGreatDoorCkLaw
import Derived.Test.YtknfpggiigncpaaGreatDoorLawTells
import Derived.Test.YtknfpggiigncpaaGreatDoorUr7
set_option linter.unusedVariables false
set_option linter.unusedSimpArgs false
section
namespace Go.Proofs.YtknfpggiigncpaaGreatDoor.E
open Go.RowKit YtknfpggiigncpaaGreatDoorW.PrintWords YtknfpggiigncpaaGreatDoorW.PrintLast YtknfpggiigncpaaGreatDoorW.PrintMore
attribute [local go_sem] max2_int min2_int max_two min_two max_three min_three max_four min_four
/-! ### remitterlaw10_many: function 41 -/
/-! ### remitterlaw10_Great: function 13 -/
end Go.Proofs.YtknfpggiigncpaaGreatDoor.E
end
section
namespace Go.Proofs.YtknfpggiigncpaaGreatDoor.E
open P B Go.RowKit YtknfpggiigncpaaGreatDoorW.PrintWords YtknfpggiigncpaaGreatDoorW.PrintLast YtknfpggiigncpaaGreatDoorW.PrintMore
attribute [local go_sem] max2_int min2_int max_two min_two max_three min_three max_four min_four
/-! ### remitterref10_Twin: function 15 -/
/-! ### remitterref11_good: function 42 -/
/-! ### remitterref11_attribute: function 77 -/
end Go.Proofs.YtknfpggiigncpaaGreatDoor.E
end
section
namespace Go.Proofs.YtknfpggiigncpaaGreatDoor.E
open Go.RowKit YtknfpggiigncpaaGreatDoorW.PrintWords YtknfpggiigncpaaGreatDoorW.PrintLast YtknfpggiigncpaaGreatDoorW.PrintMore
attribute [local go_sem] max2_int min2_int max_two min_two max_three min_three max_four min_four
/-! ### remitterref11_name: function 78 -/
end Go.Proofs.YtknfpggiigncpaaGreatDoor.E
end
section
namespace Go.Proofs.YtknfpggiigncpaaGreatDoor.E
open P B Go.RowKit YtknfpggiigncpaaGreatDoorW.PrintWords YtknfpggiigncpaaGreatDoorW.PrintLast YtknfpggiigncpaaGreatDoorW.PrintMore
attribute [local go_sem] max2_int min2_int max_two min_two max_three min_three max_four min_four
/-! ### remitterref11_shape: function 44 -/
end Go.Proofs.YtknfpggiigncpaaGreatDoor.E
end
section
namespace Go.Proofs.YtknfpggiigncpaaGreatDoor.E
open P B Go.RowKit YtknfpggiigncpaaGreatDoorW.PrintWords YtknfpggiigncpaaGreatDoorW.PrintLast YtknfpggiigncpaaGreatDoorW.PrintMore
attribute [local go_sem] max2_int min2_int max_two min_two max_three min_three max_four min_four
/-! ### remitterref11_count: function 45 -/
/-! ### remitterref11_May: function 17 -/
/-! ### remitterref11_element: function 43 -/
/-! ### remitterref11_Write: function 16 -/
end Go.Proofs.YtknfpggiigncpaaGreatDoor.E
end
section
namespace Go.Proofs.YtknfpggiigncpaaGreatDoor.E
open Go.RowKit P B
open YtknfpggiigncpaaGreatDoorW.PrintWords
def sized (v : S24) : Prop := v.f0.size ≤ 5000 ∧ v.f1.size ≤ 5000 ∧ v.f2.length ≤ 1000000
def smallT : Nat → S24 → Prop
  | 0, v => sized v
  | d + 1, v => sized v ∧ ∀ k ∈ v.f2, smallT d k
theorem smallT.top : ∀ {d : Nat} {v : S24}, smallT d v → sized v
  | 0, _, h => h
  | _ + 1, _, h => h.1
theorem rd_get (l : List S24) (i : Nat) (h : i < l.length) : rd_T24 l (i : Int) = l[i] := by
  unfold rd_T24
  rw [Int.toNat_natCast, List.getD_eq_getElem?_getD, List.getElem?_eq_getElem h]
  rfl
def cntL : List S24 → Nat
  | [] => 0
  | ⟨a, b, q⟩ :: l => 1 + cntL q + cntL l
theorem rd_pre (p l : List S24) (x : S24) : rd_T24 (p ++ x :: l) (p.length : Int) = x := by
  rw [rd_get _ _ (by simp)]
  simp
theorem len_cnt : ∀ l : List S24, l.length ≤ cntL l
  | [] => by simp
  | ⟨a, b, q⟩ :: l => by
    have := len_cnt l
    simp only [cntL, List.length_cons]
    omega
termination_by l => SizeOf.sizeOf l
end Go.Proofs.YtknfpggiigncpaaGreatDoor.E
end
section
namespace Go.Proofs.YtknfpggiigncpaaGreatDoor.E
open Go.RowKit YtknfpggiigncpaaGreatDoorW.PrintWords YtknfpggiigncpaaGreatDoorW.PrintLast YtknfpggiigncpaaGreatDoorW.PrintMore
attribute [local go_sem] max2_int min2_int max_two min_two max_three min_three max_four min_four
/-! ### remitterref10_Same: function 20 -/
mutual
def remitterref10_Same.j0 : Nat → Bool → ByteArray → ByteArray → List (S24) → ByteArray → ByteArray → List (S24) → Option (Bool)
  | 0, _, _, _, _, _, _, _ => none
  | k + 1, x26, x107000, x107001, x107002, x108000, x108001, x108002 => if x26 = true then (some false) else (remitterref10_Same.l0 k 0 x107000 x107001 x107002 x108000 x108001 x108002)
def remitterref10_Same.l0 : Nat → Int → ByteArray → ByteArray → List (S24) → ByteArray → ByteArray → List (S24) → Option (Bool)
  | 0, _, _, _, _, _, _, _ => none
  | k + 1, x5, x107000, x107001, x107002, x108000, x108001, x108002 => if x5 < (x107002.length : Int) then (if 0 ≤ x5 then (if x5 < (x108002.length : Int) then ((remitterref10_Same.f k ((rd_T24 x107002 x5).f0) ((rd_T24 x107002 x5).f1) ((rd_T24 x107002 x5).f2) ((rd_T24 x108002 x5).f0) ((rd_T24 x108002 x5).f1) ((rd_T24 x108002 x5).f2)).bind fun t110 => (if t110 = true then (remitterref10_Same.l0 k (wrap64 (x5 + 1)) x107000 x107001 x107002 x108000 x108001 x108002) else (some false))) else (none)) else (none)) else (some true)
def remitterref10_Same.f : Nat → ByteArray → ByteArray → List (S24) → ByteArray → ByteArray → List (S24) → Option (Bool)
  | 0, _, _, _, _, _, _ => none
  | k + 1, a0_0, a0_1, l0_2, a1_0, a1_1, l1_2 => if a0_0.toList = a1_0.toList then (if a0_1.toList = a1_1.toList then (remitterref10_Same.j0 k ((l0_2.length : Int) != (l1_2.length : Int)) a0_0 a0_1 l0_2 a1_0 a1_1 l1_2) else (remitterref10_Same.j0 k true a0_0 a0_1 l0_2 a1_0 a1_1 l1_2)) else (remitterref10_Same.j0 k true a0_0 a0_1 l0_2 a1_0 a1_1 l1_2)
end
def remitterref10_Same.T6 : Bool × List (List Nat × List Nat) := (true, [([], []), ([0], [0]), ([], []), ([1, 2], [1, 2]), ([3], [3]), ([], []), ([5], [5]), ([], []), ([6, 7], [6, 7]), ([8], [8]), ([4, 9], [4, 9]), ([10], [10])])
def remitterref10_Same.B6 : List Nat := [0, 1, 0, 7, 15, 0, 32, 0, 224, 480, 1023, 2047]
theorem remitterref10_Same.tab6 : rtab .any (opsOf Tryz.f20 6) = remitterref10_Same.T6 := by kernel_rfl
theorem remitterref10_Same.bits6 : waitsOk remitterref10_Same.T6.2 remitterref10_Same.B6 = true := by kernel_rfl
end Go.Proofs.YtknfpggiigncpaaGreatDoor.E
end
section
namespace Go.Proofs.YtknfpggiigncpaaGreatDoor.E
open Go.RowKit P B
open YtknfpggiigncpaaGreatDoorW.PrintWords
theorem same_l0 : ∀ (l p : List S24) (a b c d : ByteArray), cntL l ≤ 100000 → (p ++ l).length ≤ 100000 →
    Ev (fun k => remitterref10_Same.l0 k (p.length : Int) a b (p ++ l) c d (p ++ l)) true
  | [], p, a, b, c, d, hn, hl => by
    refine ⟨1, fun k hk => ?_⟩
    obtain ⟨k, rfl⟩ : ∃ j, k = j + 1 := ⟨k - 1, by omega⟩
    simp only [remitterref10_Same.l0]
    rw [if_neg (by simp)]
  | ⟨x, y, q⟩ :: l, p, a, b, c, d, hn, hl => by
    have hL : (p ++ (⟨x, y, q⟩ : S24) :: l).length = p.length + l.length + 1 := by simp; omega
    simp only [cntL] at hn
    obtain ⟨K1, hK1⟩ := same_l0 q [] x y x y (by omega) (by have := len_cnt q; simp; omega)
    obtain ⟨K2, hK2⟩ := same_l0 l (p ++ [⟨x, y, q⟩]) a b c d (by omega) (by rw [List.append_assoc]; exact hl)
    refine ⟨K1 + K2 + 3, fun k hk => ?_⟩
    obtain ⟨k, rfl⟩ : ∃ j, k = j + 3 := ⟨k - 3, by omega⟩
    have h1 : remitterref10_Same.l0 k 0 x y q x y q = some true := hK1 k (by omega)
    have h3 := hK2 (k + 2) (by omega)
    simp only [List.append_assoc, List.singleton_append, List.length_append, List.length_singleton] at h3
    dsimp only
    rw [remitterref10_Same.l0, if_pos (by rw [hL]; omega), if_pos (by omega), if_pos (by rw [hL]; omega), rd_pre]
    dsimp only
    rw [remitterref10_Same.f, if_pos rfl, if_pos rfl, bne_self_eq_false, remitterref10_Same.j0, if_neg (by simp), h1, Option.bind_some, if_pos rfl, w_succ p.length (by omega), h3]
termination_by l => SizeOf.sizeOf l
end Go.Proofs.YtknfpggiigncpaaGreatDoor.E
end
section
namespace Go.Proofs.YtknfpggiigncpaaGreatDoor.T
open Go.RowKit P E
theorem cnt_nil5 : cntL [] = 0 := by simp [cntL]
theorem badG_cnt (a e : Int) : cntL (badG a e).root.f2 ≤ 20000 := by
  show cntL [] ≤ 20000
  rw [cnt_nil5]
  omega
theorem cntL_app5 : ∀ (a b : List S24), cntL (a ++ b) = cntL a + cntL b
  | [], b => by simp [cntL]
  | ⟨x, y, q⟩ :: l, b => by
    have := cntL_app5 l b
    simp only [List.cons_append, cntL]
    omega
theorem atts_cnt : ∀ (l : List C.S77) (sp : List (List UInt8 × List UInt8)) (ks : List S24) (sp' : List (List UInt8 × List UInt8)) (ks' : List S24), cntL ks = ks.length → attsT l sp ks = some (sp', ks') → cntL ks' = ks'.length
  | [], sp, ks, sp', ks', h, hh => by injection hh with hh; injection hh with _ h2; rw [← h2]; exact h
  | a :: l, sp, ks, sp', ks', h, hh => by
    rw [attsT] at hh
    split at hh
    · exact atts_cnt l _ ks sp' ks' h hh
    · split at hh
      · exact atts_cnt l _ ks sp' ks' h hh
      · split at hh
        · cases hh
        · refine atts_cnt l _ _ sp' ks' ?_ hh
          rw [cntL_app5, h]
          simp [cntL]
theorem headT_cnt {sp : List (List UInt8 × List UInt8)} {deep many : Nat} {space : ByteArray} {t : C.S44} {nd : Nd} {m2 : Nat} {s2 : ByteArray} (h : headT sp deep many space t = .ok (nd, m2, s2)) : m2 = many + cntL nd.ks + 1 := by
  unfold headT at h
  cases ha : attsT t.f3 sp [] with
  | none => rw [ha] at h; cases h
  | some z =>
    obtain ⟨sp', ks⟩ := z
    have hc := atts_cnt t.f3 sp [] sp' ks cnt_nil5 ha
    rw [ha] at h
    simp only at h
    repeat' split at h
    all_goals first
      | (cases h; done)
      | (injection h with h
         injection h with h1 h2
         injection h2 with h2 _
         rw [← h1, ← h2]
         show _ = _ + cntL ks + 1
         rw [hc])
def CF (n0 : Nat) : Except (Int × Int) (S24 × Nat × List C.S44) → Prop
  | .error _ => True
  | .ok (v, m, _) => cntL v.f2 + n0 = m
theorem loopR_cnt (n : Int) : ∀ (k : Nat) (nd : Nd) (deep many n0 : Nat) (space : ByteArray) (toks : List C.S44), cntL nd.ks + n0 = many → CF n0 (loopR n k nd deep many space toks) := by
  intro k
  induction k with
  | zero => intro nd deep many n0 space toks hm; trivial
  | succ k ih =>
    intro nd deep many n0 space toks hm
    cases toks with
    | nil => trivial
    | cons x l =>
      rw [loopR]
      by_cases c3 : x.f0 = 3
      · rw [if_pos c3]
        by_cases c : nd.hask = true ∧ blankL x.f2.data.toList = false
        · rw [if_pos c]; trivial
        · rw [if_neg c]; exact ih _ deep many n0 space l hm
      rw [if_neg c3]
      by_cases c2 : x.f0 = 2
      · rw [if_pos c2]
        by_cases c : x.f1 = nd.name
        · rw [if_pos c]; exact hm
        · rw [if_neg c]; trivial
      rw [if_neg c2]
      by_cases cs : blankL nd.said.data.toList = false
      · rw [if_pos cs]; trivial
      rw [if_neg cs]
      cases hh : headT nd.sp (deep + 1) many space x with
      | error e => trivial
      | ok z =>
        obtain ⟨nd2, many2, s2⟩ := z
        have hc := headT_cnt hh
        simp only
        by_cases c4 : x.f4 = true
        · rw [if_pos c4]
          refine ih _ deep many2 n0 space l ?_
          show cntL (nd.ks ++ [valT nd2]) + n0 = many2
          rw [cntL_app5]
          have : cntL [valT nd2] = 1 + cntL nd2.ks := by unfold valT; simp [cntL]
          omega
        rw [if_neg c4]
        have h2 := ih nd2 (deep + 1) many2 (many + 1) space l (by omega)
        cases hl : loopR n k nd2 (deep + 1) many2 space l with
        | error z => trivial
        | ok z =>
          obtain ⟨v, many3, l'⟩ := z
          rw [hl] at h2
          have h2' : cntL v.f2 + (many + 1) = many3 := h2
          refine ih _ deep many3 n0 space l' ?_
          show cntL (nd.ks ++ [v]) + n0 = many3
          rw [cntL_app5]
          obtain ⟨a, b, q⟩ := v
          have : cntL [(⟨a, b, q⟩ : S24)] = 1 + cntL q := by simp [cntL]
          simp only at h2'
          omega
theorem topR_cnt (n : Int) : ∀ (k : Nat) (done : Bool) (root : S24) (many : Nat) (space : ByteArray) (toks : List C.S44), many ≤ 20000 → cntL root.f2 ≤ 20000 → cntL (topR n k done root many space toks).root.f2 ≤ 20000 := by
  intro k
  induction k with
  | zero =>
    intro done root many space toks hm hr
    cases done
    · exact badG_cnt _ _
    · exact hr
  | succ k ih =>
    intro done root many space toks hm hr
    cases toks with
    | nil =>
      cases done
      · exact badG_cnt _ _
      · exact hr
    | cons x l =>
      rw [topR]
      by_cases c3 : x.f0 = 3 ∧ blankL x.f2.data.toList = true
      · rw [if_pos c3]; exact ih done root many space l hm hr
      rw [if_neg c3]
      by_cases c1 : x.f0 ≠ 1 ∨ done = true
      · rw [if_pos c1]; exact badG_cnt _ _
      rw [if_neg c1]
      cases hh : headT [] 0 many space x with
      | error e => exact badG_cnt _ _
      | ok z =>
        obtain ⟨nd, many2, s2⟩ := z
        have hc := headT_cnt hh
        have hm2 : many2 ≤ 20000 := (headT_ok hh).1
        simp only
        by_cases c4 : x.f4 = true
        · rw [if_pos c4]
          refine ih true _ many2 s2 l hm2 ?_
          show cntL nd.ks ≤ 20000
          omega
        rw [if_neg c4]
        have h2 := loopR_cnt n k nd 0 many2 (many + 1) s2 l (by omega)
        have h3 := loopR_facts n k nd 0 many2 s2 l hm2
        cases hl : loopR n k nd 0 many2 s2 l with
        | error z => exact badG_cnt _ _
        | ok z =>
          obtain ⟨v, many3, l'⟩ := z
          rw [hl] at h2 h3
          have h2' : cntL v.f2 + (many + 1) = many3 := h2
          exact ih true v many3 s2 l' h3.1 (by have := h3.1; omega)
theorem parse_cnt (s : ByteArray) : cntL (parseD s).root.f2 ≤ 20000 := by
  unfold parseD
  split
  · exact badG_cnt _ _
  · exact topR_cnt _ _ _ _ _ _ _ (Nat.zero_le _) (by show cntL [] ≤ 20000; rw [cnt_nil5]; omega)
theorem same_ev5 (v : S24) (h : cntL v.f2 ≤ 20000) : ∃ k, remitterref10_Same.f k v.f0 v.f1 v.f2 v.f0 v.f1 v.f2 = some true := by
  obtain ⟨K, hK⟩ := same_l0 v.f2 [] v.f0 v.f1 v.f0 v.f1 (by omega) (by have := len_cnt v.f2; simp; omega)
  refine ⟨K + 2, ?_⟩
  have h1 : remitterref10_Same.l0 K 0 v.f0 v.f1 v.f2 v.f0 v.f1 v.f2 = some true := hK K (by omega)
  rw [remitterref10_Same.f, if_pos rfl, if_pos rfl, bne_self_eq_false, remitterref10_Same.j0, if_neg (by simp), h1]
end Go.Proofs.YtknfpggiigncpaaGreatDoor.T
end
