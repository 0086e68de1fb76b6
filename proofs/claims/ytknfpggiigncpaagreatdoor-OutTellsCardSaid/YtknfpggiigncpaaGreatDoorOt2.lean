/- The document's own May, as it is printed, tells shapeT: plain. -/
import Derived.Test.YtknfpggiigncpaaGreatDoorOt1
import Derived.Test.YtknfpggiigncpaaGreatDoorEx1
import Derived.Test.YtknfpggiigncpaaGreatDoorEx6
import Derived.Test.YtknfpggiigncpaaGreatDoorLawTells
set_option linter.unusedVariables false
set_option linter.unusedSimpArgs false
namespace Go.Proofs.YtknfpggiigncpaaGreatDoor.E
open Go.RowKit Go.Proofs.YtknfpggiigncpaaGreatDoor.P Go.Proofs.YtknfpggiigncpaaGreatDoor.B
open Go.Proofs.YtknfpggiigncpaaGreatDoorW.PrintWords hiding Ev

set_option maxHeartbeats 4000000 in
theorem name_l0 (s : ByteArray) (hs : s.size ≤ 5000) : ∀ (d i : Nat), i + d = s.size → 0 < i → Ev (fun k => remitterref11_name.l0 k s (i : Int)) ((s.data.toList.drop i).all insB && decide (s.size ≤ 100))
  | 0, i, h, h0 => by
    refine ⟨1, fun k hk => ?_⟩
    obtain ⟨k, rfl⟩ : ∃ j, k = j + 1 := ⟨k - 1, by omega⟩
    simp only [remitterref11_name.l0]
    rw [if_neg (by omega), if_pos (by omega), List.drop_of_length_le (by simp; omega)]
    simp only [List.all_nil, Bool.true_and, Option.some.injEq, decide_eq_decide]
    omega
  | d + 1, i, h, h0 => by
    obtain ⟨K, hK⟩ := name_l0 s hs d (i + 1) (by omega) (by omega)
    have hi : i < s.size := by omega
    refine ⟨K + 1, fun k hk => ?_⟩
    obtain ⟨k, rfl⟩ : ∃ j, k = j + 1 := ⟨k - 1, by omega⟩
    have hk' := hK k (by omega)
    simp only at hk'
    simp only [remitterref11_name.l0]
    rw [if_pos (by omega), if_pos (by omega), bt_of s i hi, w_succ i (by omega), hk', drop_at s i hi, List.all_cons]
    generalize s[i] = b
    cases hb : insB b <;> simp only [insB, letB, Bool.or_eq_true, Bool.or_eq_false_iff, Bool.and_eq_true, Bool.and_eq_false_iff, decide_eq_true_eq, decide_eq_false_iff_not, beq_iff_eq, beq_eq_false_iff_ne, ne_eq] at hb <;> simp only [Bool.true_and, Bool.false_and] <;> (repeat' split) <;> first | rfl | (exfalso; omega)
set_option maxHeartbeats 4000000 in
theorem name_ev (s : ByteArray) (hs : s.size ≤ 5000) : Ev (fun k => remitterref11_name.f k s) (nameB s.data.toList) := by
  unfold remitterref11_name.f
  by_cases h0 : s.size = 0
  · refine ⟨1, fun k hk => ?_⟩
    obtain ⟨k, rfl⟩ : ∃ j, k = j + 1 := ⟨k - 1, by omega⟩
    simp only [remitterref11_name.l0]
    rw [if_neg (by omega), if_neg (by omega), show s.data.toList = [] from List.length_eq_zero_iff.1 (by rw [← sz_list]; exact h0)]
    rfl
  · obtain ⟨K, hK⟩ := name_l0 s hs (s.size - 1) 1 (by omega) (by omega)
    refine ⟨K + 1, fun k hk => ?_⟩
    obtain ⟨k, rfl⟩ : ∃ j, k = j + 1 := ⟨k - 1, by omega⟩
    have hk' := hK k (by omega)
    simp only at hk'
    have hi : 0 < s.size := by omega
    simp only [remitterref11_name.l0]
    have hb0 := bt_of s 0 hi
    have hd := drop_at s 0 hi
    have hl : s.size = s.data.toList.length := sz_list s
    rw [List.drop_zero] at hd
    rw [if_pos (by omega), if_pos (by omega), show bt s 0 = ((s[0]'hi).toNat : Int) from hb0, show wrap64 (0 + 1) = ((1 : Nat) : Int) by unfold wrap64; omega, hk', hd]
    have e : decide (s.size ≤ 100) = decide ((s.data.toList.drop 1).length ≤ 99) := by rw [decide_eq_decide, List.length_drop, ← hl]; omega
    rw [e]
    simp only [Nat.zero_add]
    generalize s.data.toList.drop 1 = r
    generalize s[0]'hi = b
    simp only [nameB, Bool.and_assoc]
    cases hb : letB b <;> simp only [letB, Bool.or_eq_true, Bool.or_eq_false_iff, Bool.and_eq_true, Bool.and_eq_false_iff, decide_eq_true_eq, decide_eq_false_iff_not, beq_iff_eq, beq_eq_false_iff_ne, ne_eq] at hb <;> simp only [Bool.true_and, Bool.false_and] <;> (repeat' split) <;> first | rfl | (exfalso; omega) | (exact absurd trivial ‹¬True›)
theorem good_ev (s : ByteArray) (hs : s.size ≤ 5000) : Ev (fun k => remitterref11_good.f k s) (goodB s.data.toList) :=
  ⟨6000, fun k hk => by
    unfold remitterref11_good.f goodB
    dsimp only
    rw [refCheck s hs k hk]
    exact congrArg some (by rw [Bool.eq_iff_iff]; simp)⟩
theorem attr_f (v : S24) : remitterref11_attribute.f v.f0 v.f1 v.f2 = some (attrB v) := by
  unfold remitterref11_attribute.f attrB
  by_cases h : v.f0.size = 0
  · rw [if_neg (by omega), show v.f0.data.toList = [] from List.length_eq_zero_iff.1 (by rw [← sz_list]; exact h)]
  · have h' : 0 < v.f0.size := by omega
    have hd := drop_at v.f0 0 h'
    rw [List.drop_zero] at hd
    rw [if_pos (by omega), if_pos (by omega), hd, show bt v.f0 0 = ((v.f0[0]'h').toNat : Int) from bt_of v.f0 0 h']
    refine congrArg some ?_
    rw [Bool.eq_iff_iff, beq_iff_eq, beq_iff_eq, ← UInt8.toNat_inj]
    show _ ↔ _ = 64
    omega
def sized (v : S24) : Prop := v.f0.size ≤ 5000 ∧ v.f1.size ≤ 5000 ∧ v.f2.length ≤ 1000000
/-- So many deep everything is small. -/
def smallT : Nat → S24 → Prop
  | 0, v => sized v
  | d + 1, v => sized v ∧ ∀ k ∈ v.f2, smallT d k
theorem smallT.top : ∀ {d : Nat} {v : S24}, smallT d v → sized v
  | 0, _, h => h
  | _ + 1, _, h => h.1
theorem rd_get (l : List S24) (i : Nat) (h : i < l.length) : rd_T24 l (i : Int) = l[i] := by
  unfold rd_T24
  rw [Int.toNat_natCast, List.getD_eq_getElem?_getD, List.getElem?_eq_getElem h]
  rfl
theorem take_succ_at (l : List S24) (i : Nat) (h : i < l.length) : l.take (i + 1) = l.take i ++ [l[i]] := by
  rw [List.take_add_one, List.getElem?_eq_getElem h]
  rfl
theorem l1_ev (x1 x5 : Int) (x6 : Bool) (a b : ByteArray) (l : List S24) (hl : l.length ≤ 1000000) (c d : ByteArray) (m : List S24) (i : Nat) (hi : i ≤ l.length) (R : Bool)
    (h : Ev (fun k => remitterref11_shape.l0 k x1 x5 x6 ((i + 1 : Nat) : Int) a b l) R) :
    ∀ (r j : Nat), j + r = i → Ev (fun k => remitterref11_shape.l1 k x1 x5 x6 (i : Int) (j : Int) a b l c d m) (!(((l.take i).drop j).any fun q => q.f0.data.toList == c.data.toList) && R)
  | 0, j, hj => by
    obtain ⟨K, hK⟩ := h
    refine ⟨K + 1, fun k hk => ?_⟩
    obtain ⟨k, rfl⟩ : ∃ j, k = j + 1 := ⟨k - 1, by omega⟩
    have hk' := hK k (by omega)
    simp only at hk'
    simp only [remitterref11_shape.l1]
    rw [if_neg (by omega), w_succ i (by omega), hk', List.drop_of_length_le (by rw [List.length_take]; omega)]
    simp
  | r + 1, j, hj => by
    obtain ⟨K, hK⟩ := l1_ev x1 x5 x6 a b l hl c d m i hi R h r (j + 1) (by omega)
    refine ⟨K + 1, fun k hk => ?_⟩
    obtain ⟨k, rfl⟩ : ∃ j, k = j + 1 := ⟨k - 1, by omega⟩
    have hk' := hK k (by omega)
    simp only at hk'
    simp only [remitterref11_shape.l1]
    rw [if_pos (by omega), if_pos (by omega), if_pos (by omega), w_succ j (by omega), hk', rd_get l j (by omega), List.drop_eq_getElem_cons (l := l.take i) (i := j) (by rw [List.length_take]; omega), List.any_cons, List.getElem_take, toL, toL]
    by_cases e : (l[j]'(by omega)).f0.data.toList = c.data.toList
    · rw [if_pos e, e]; simp
    · rw [if_neg e, beq_eq_false_iff_ne.2 e]; simp
theorem l0_ev (d : Nat) (hd : d ≤ 100) (v : S24) (hv : sized v) (hk : ∀ k ∈ v.f2, sized k)
    (ih : ∀ k ∈ v.f2, Ev (fun n => remitterref11_shape.f n k.f0 k.f1 k.f2 (d : Int)) (shapeT d k)) :
    ∀ (r i n : Nat) (el : Bool), i + r = v.f2.length → n ≤ i →
      Ev (fun k => remitterref11_shape.l0 k ((d + 1 : Nat) : Int) (n : Int) el (i : Int) v.f0 v.f1 v.f2) (shapeT.kids (shapeT d) v.f1.data.toList.isEmpty (v.f2.take i) n el (v.f2.drop i))
  | 0, i, n, el, h, hn => by
    refine ⟨1, fun k hk => ?_⟩
    obtain ⟨k, rfl⟩ : ∃ j, k = j + 1 := ⟨k - 1, by omega⟩
    simp only [remitterref11_shape.l0]
    rw [if_neg (by omega), List.drop_of_length_le (by omega)]
    cases el
    · rfl
    · simp only [if_true, shapeT.kids, Bool.not_true, Bool.false_or, toL]
      cases v.f1.data.toList <;> rfl
  | r + 1, i, n, el, h, hn => by
    have hi : i < v.f2.length := by omega
    have hv2 := hv.2.2
    have hm : v.f2[i] ∈ v.f2 := List.getElem_mem hi
    rw [List.drop_eq_getElem_cons hi]
    have hkk := hk _ hm
    have ihk := ih _ hm
    have hat := attr_f (v.f2[i])
    have hA := l0_ev d hd v hv hk ih r (i + 1) (n + 1) false (by omega) (by omega)
    have hE := l0_ev d hd v hv hk ih r (i + 1) n true (by omega) (by omega)
    rw [take_succ_at v.f2 i hi] at hA hE
    have hrd := rd_get v.f2 i hi
    generalize v.f2[i] = q at *
    simp only [shapeT.kids]
    cases ha : attrB q with
    | false =>
      obtain ⟨K1, hK1⟩ := ihk
      obtain ⟨K2, hK2⟩ := hE
      refine ⟨K1 + K2 + 1, fun k hk => ?_⟩
      obtain ⟨k, rfl⟩ : ∃ j, k = j + 1 := ⟨k - 1, by omega⟩
      have h1 := hK1 k (by omega)
      have h2 := hK2 k (by omega)
      simp only at h1 h2
      simp only [remitterref11_shape.l0]
      rw [if_pos (by omega), if_pos (by omega), hrd, hat, ha]
      simp only [Option.bind_some, Bool.false_eq_true, if_false]
      rw [show wrap64 (((d + 1 : Nat) : Int) - 1) = (d : Int) by unfold wrap64; omega, h1, Option.bind_some, w_succ i (by omega), h2]
      cases shapeT d q <;> simp
    | true =>
      rw [if_pos rfl]
      have hl1 := l1_ev ((d + 1 : Nat) : Int) ((n + 1 : Nat) : Int) false v.f0 v.f1 v.f2 hv.2.2 q.f0 q.f1 q.f2 i (by omega) _ hA i 0 (by omega)
      rw [List.drop_zero] at hl1
      have hq : 1 ≤ q.f0.size := by
        unfold attrB at ha
        rw [sz_list]
        cases hz : q.f0.data.toList with
        | nil => rw [hz] at ha; cases ha
        | cons x y => simp
      obtain ⟨K1, hK1⟩ := name_ev (q.f0.extract 1 q.f0.size) (by rw [ByteArray.size_extract]; have := hkk.1; omega)
      obtain ⟨K2, hK2⟩ := good_ev q.f1 hkk.2.1
      obtain ⟨K3, hK3⟩ := hl1
      refine ⟨K1 + K2 + K3 + 2, fun k hk => ?_⟩
      obtain ⟨k, rfl⟩ : ∃ j, k = j + 2 := ⟨k - 2, by omega⟩
      have h1 := hK1 (k + 1) (by omega)
      have h2 := hK2 (k + 1) (by omega)
      have h3 := hK3 k (by omega)
      simp only at h1 h2 h3
      rw [show (q.f0.extract 1 q.f0.size).data.toList = atL q by rw [ext_list]; unfold atL; rw [List.take_of_length_le (by simp)]] at h1
      dsimp only
      rw [remitterref11_shape.l0]
      rw [if_pos (by omega), if_pos (by omega), hrd, hat, ha]
      simp only [Option.bind_some, if_true]
      rw [w_succ n (by omega), if_pos (show (1 : Int) ≤ (q.f0.size : Int) by omega), h1, h2, toL]
      simp only [Option.bind_some, remitterref11_shape.j2, if_true]
      have h3' : remitterref11_shape.l1 k ((d + 1 : Nat) : Int) ((n + 1 : Nat) : Int) false (i : Int) 0 v.f0 v.f1 v.f2 q.f0 q.f1 q.f2 = _ := h3
      cases el with
      | true => simp
      | false =>
        rw [if_neg (by simp)]
        by_cases g1 : n + 1 ≤ 19
        · rw [if_neg (by omega), decide_eq_true g1]
          cases g2 : nameB (atL q)
          · simp
          · by_cases g3 : q.f0.data.toList = [64, 120, 109, 108, 110, 115]
            · rw [if_pos g3]; simp [g3]
            · rw [if_neg g3, beq_eq_false_iff_ne.2 g3]
              cases g4 : goodB q.f1.data.toList
              · simp
              · cases g5 : q.f2 with
                | nil => rw [g5] at h3'; rw [if_pos rfl, if_pos rfl, show decide ((([] : List S24).length : Int) > 0) = false from rfl, if_neg (by simp), h3']; rfl
                | cons x y => simp
        · rw [if_pos (by omega), decide_eq_false g1]
          simp
theorem shape_ev : ∀ (d : Nat), d ≤ 100 → ∀ (v : S24), smallT d v → Ev (fun k => remitterref11_shape.f k v.f0 v.f1 v.f2 (d : Int)) (shapeT d v)
  | 0, hd, v, hv => by
    refine ⟨2, fun k hk => ?_⟩
    obtain ⟨k, rfl⟩ : ∃ j, k = j + 2 := ⟨k - 2, by omega⟩
    dsimp only
    rw [remitterref11_shape.f, if_pos (show ((0 : Nat) : Int) = 0 from rfl), remitterref11_shape.j0, if_pos rfl]
    rfl
  | d + 1, hd, v, hv => by
    obtain ⟨K1, hK1⟩ := name_ev v.f0 hv.1.1
    obtain ⟨K2, hK2⟩ := good_ev v.f1 hv.1.2.1
    obtain ⟨K3, hK3⟩ := l0_ev d (by omega) v hv.1 (fun k h => (hv.2 k h).top) (fun k h => shape_ev d (by omega) k (hv.2 k h)) v.f2.length 0 0 false (by omega) (by omega)
    refine ⟨K1 + K2 + K3 + 2, fun k hk => ?_⟩
    obtain ⟨k, rfl⟩ : ∃ j, k = j + 2 := ⟨k - 2, by omega⟩
    have h1 := hK1 (k + 1) (by omega)
    have h2 := hK2 (k + 1) (by omega)
    have h3 := hK3 k (by omega)
    simp only [List.take_zero, List.drop_zero] at h1 h2 h3
    have h3' : remitterref11_shape.l0 k ((d + 1 : Nat) : Int) 0 false 0 v.f0 v.f1 v.f2 = _ := h3
    dsimp only
    rw [remitterref11_shape.f, if_neg (by omega), h1, h2]
    simp only [Option.bind_some, remitterref11_shape.j0, shapeT]
    rw [h3']
    cases nameB v.f0.data.toList <;> cases goodB v.f1.data.toList <;> simp
end Go.Proofs.YtknfpggiigncpaaGreatDoor.E
