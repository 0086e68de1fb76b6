/- The law's own plain, as it is printed, tells plT: plain Lean. -/
import Derived.Test.YtknfpggiigncpaaGreatDoorCx0
import Derived.Test.YtknfpggiigncpaaGreatDoorHx2
set_option maxHeartbeats 4000000
set_option linter.unusedVariables false
set_option linter.unusedSimpArgs false
namespace Go.Proofs.YtknfpggiigncpaaGreatDoor.E
open Go.RowKit P B
open YtknfpggiigncpaaGreatDoorW.PrintWords
def letN (c : UInt8) : Bool := (decide (97 ≤ c.toNat) && decide (c.toNat ≤ 122)) || (decide (65 ≤ c.toNat) && decide (c.toNat ≤ 90))
def nameP (l : List UInt8) : Bool := !l.isEmpty && decide (l.length ≤ 20) && l.all letN
def at2B (k : S24) : Bool := decide (1 < k.f0.size) && attrB k
def plK (sh : S24 → Bool) (ok nt : Bool) : List S24 → Bool → List S24 → Bool
 | _, el, [] => ok && (!el || nt)
 | prev, el, k :: l =>
  if at2B k = true then !el && (k.f2.isEmpty && (goodB k.f1.data.toList && (nameP (atL k) && (!(atL k == [120, 109, 108, 110, 115]) && (!(prev.any fun b => b.f0.data.toList == k.f0.data.toList) && plK sh ok nt (prev ++ [k]) el l)))))
  else sh k && plK sh ok nt (prev ++ [k]) true l
def plT : Nat → S24 → Bool
 | 0, _ => false
 | d + 1, v => nameP v.f0.data.toList && (decide (v.f2.length ≤ 20) && plK (plT d) (goodB v.f1.data.toList) v.f1.data.toList.isEmpty [] false v.f2)
theorem pl_l0 (x1 : Int) (a b : ByteArray) (l : List S24) (hs : a.size ≤ 5000) (R : Bool) (hR : Ev (fun k => (text_Check.f b).bind fun bt => remitterlaw10_plain.l1 k x1 false bt.2 0 a b l) R) :
  ∀ (d i : Nat), i + d = a.size → Ev (fun k => remitterlaw10_plain.l0 k x1 false (i : Int) a b l) ((a.data.toList.drop i).all letN && R)
 | 0, i, h => by
  obtain ⟨K, hK⟩ := hR
  refine ⟨K + 1, fun k hk => ?_⟩
  obtain ⟨k, rfl⟩ : ∃ j, k = j + 1 := ⟨k - 1, by omega⟩
  have hk' := hK k (by omega)
  simp only at hk'
  simp only [remitterlaw10_plain.l0]
  rw [if_neg (by omega), List.drop_of_length_le (by simp; omega)]
  refine hk'.trans ?_
  simp
 | d + 1, i, h => by
  obtain ⟨K, hK⟩ := pl_l0 x1 a b l hs R hR d (i + 1) (by omega)
  have hi : i < a.size := by omega
  refine ⟨K + 1, fun k hk => ?_⟩
  obtain ⟨k, rfl⟩ : ∃ j, k = j + 1 := ⟨k - 1, by omega⟩
  have hk' := hK k (by omega)
  simp only at hk'
  simp only [remitterlaw10_plain.l0]
  rw [if_pos (by omega), if_pos (by omega), bt_of a i hi, w_succ i (by omega), hk', drop_at a i hi, List.all_cons]
  generalize a[i] = c
  cases hb : letN c <;> simp only [letN, Bool.or_eq_true, Bool.or_eq_false_iff, Bool.and_eq_true, Bool.and_eq_false_iff, decide_eq_true_eq, decide_eq_false_iff_not] at hb <;> simp only [Bool.true_and, Bool.false_and] <;> (repeat' split) <;> first | rfl | (exfalso; omega)
theorem pl_l2 (x1 x9 : Int) (x5 : Bool) (a b : ByteArray) (l : List S24) (hl : l.length ≤ 1000000) (c d : ByteArray) (m : List S24) (i : Nat) (hi : i ≤ l.length) (R : Bool)
  (h : Ev (fun k => remitterlaw10_plain.l1 k x1 x5 x9 ((i + 1 : Nat) : Int) a b l) R) :
  ∀ (r j : Nat), j + r = i → Ev (fun k => remitterlaw10_plain.l2 k x1 x5 x9 (i : Int) (j : Int) a b l c d m) (!(((l.take i).drop j).any fun q => q.f0.data.toList == c.data.toList) && R)
 | 0, j, hj => by
  obtain ⟨K, hK⟩ := h
  refine ⟨K + 1, fun k hk => ?_⟩
  obtain ⟨k, rfl⟩ : ∃ j, k = j + 1 := ⟨k - 1, by omega⟩
  have hk' := hK k (by omega)
  simp only at hk'
  simp only [remitterlaw10_plain.l2]
  rw [if_neg (by omega), w_succ i (by omega), hk', List.drop_of_length_le (by rw [List.length_take]; omega)]
  simp
 | r + 1, j, hj => by
  obtain ⟨K, hK⟩ := pl_l2 x1 x9 x5 a b l hl c d m i hi R h r (j + 1) (by omega)
  refine ⟨K + 1, fun k hk => ?_⟩
  obtain ⟨k, rfl⟩ : ∃ j, k = j + 1 := ⟨k - 1, by omega⟩
  have hk' := hK k (by omega)
  simp only at hk'
  simp only [remitterlaw10_plain.l2]
  rw [if_pos (by omega), if_pos (by omega), if_pos (by omega), w_succ j (by omega), hk', rd_get l j (by omega), List.drop_eq_getElem_cons (l := l.take i) (i := j) (by rw [List.length_take]; omega), List.any_cons, List.getElem_take, toL, toL]
  by_cases e : (l[j]'(by omega)).f0.data.toList = c.data.toList
  ·
   rw [if_pos e, e]; simp
  ·
   rw [if_neg e, beq_eq_false_iff_ne.2 e]; simp
theorem ext_atL (q : S24) : (q.f0.extract 1 q.f0.size).data.toList = atL q := by
 rw [ext_list]
 unfold atL
 rw [List.take_of_length_le (by simp)]
theorem at2_j3 (q : S24) : ((q.f0.size : Int) > 1 → (bt q.f0 0 == 64) = attrB q) := by
 intro h
 have h' : 0 < q.f0.size := by omega
 have hd := drop_at q.f0 0 h'
 rw [List.drop_zero] at hd
 unfold attrB
 rw [hd, show bt q.f0 0 = ((q.f0[0]'h').toNat : Int) from bt_of q.f0 0 h']
 rw [Bool.eq_iff_iff, beq_iff_eq, beq_iff_eq, ← UInt8.toNat_inj]
 show _ ↔ _ = 64
 omega
theorem pl_l1 (d : Nat) (hd : d ≤ 100) (v : S24) (hv : sized v) (hk : ∀ k ∈ v.f2, sized k) (x9 : Int) (nt : Bool) (hnt : (v.f1.toList == ([] : List UInt8)) = nt)
  (ih : ∀ k ∈ v.f2, Ev (fun n => remitterlaw10_plain.f n k.f0 k.f1 k.f2 (d : Int)) (plT d k))
  (inn : ∀ k ∈ v.f2, Ev (fun n => remitterlaw10_plain.f n (k.f0.extract 1 k.f0.size) ⟨#[]⟩ [] 1) (nameP (atL k))) :
  ∀ (r i : Nat) (el : Bool), i + r = v.f2.length →
   Ev (fun k => remitterlaw10_plain.l1 k ((d + 1 : Nat) : Int) el x9 (i : Int) v.f0 v.f1 v.f2) (plK (plT d) (decide (x9 = 0)) nt (v.f2.take i) el (v.f2.drop i))
 | 0, i, el, h => by
  refine ⟨1, fun k hk => ?_⟩
  obtain ⟨k, rfl⟩ : ∃ j, k = j + 1 := ⟨k - 1, by omega⟩
  simp only [remitterlaw10_plain.l1]
  rw [if_neg (by omega), List.drop_of_length_le (by omega), hnt]
  simp only [plK]
  by_cases h9 : x9 = 0
  ·
   rw [if_pos h9, decide_eq_true h9]
   cases el <;> simp
  ·
   rw [if_neg h9, decide_eq_false h9]
   simp
 | r + 1, i, el, h => by
  have hi : i < v.f2.length := by omega
  have hv2 := hv.2.2
  have hm : v.f2[i] ∈ v.f2 := List.getElem_mem hi
  rw [List.drop_eq_getElem_cons hi]
  have hkk := hk _ hm
  have ihk := ih _ hm
  have ink := inn _ hm
  have hat := at2_j3 (v.f2[i])
  have hA := pl_l1 d hd v hv hk x9 nt hnt ih inn r (i + 1) false (by omega)
  have hE := pl_l1 d hd v hv hk x9 nt hnt ih inn r (i + 1) true (by omega)
  rw [take_succ_at v.f2 i hi] at hA hE
  have hrd := rd_get v.f2 i hi
  have hx := ext_atL (v.f2[i])
  generalize v.f2[i] = q at *
  simp only [plK]
  cases ha : at2B q with
  | false =>
   obtain ⟨K1, hK1⟩ := ihk
   obtain ⟨K2, hK2⟩ := hE
   refine ⟨K1 + K2 + 2, fun k hk => ?_⟩
   obtain ⟨k, rfl⟩ : ∃ j, k = j + 2 := ⟨k - 2, by omega⟩
   have h1 := hK1 k (by omega)
   have h2 := hK2 k (by omega)
   simp only at h1 h2
   have hj : remitterlaw10_plain.j3 (k + 1) ((d + 1 : Nat) : Int) el x9 (i : Int) false v.f0 v.f1 v.f2 q.f0 q.f1 q.f2 = some (plT d q && plK (plT d) (decide (x9 = 0)) nt (v.f2.take i ++ [q]) true (v.f2.drop (i + 1))) := by
    simp only [remitterlaw10_plain.j3]
    rw [if_neg (by simp), show wrap64 (((d + 1 : Nat) : Int) - 1) = (d : Int) by unfold wrap64; omega, h1, Option.bind_some, w_succ i (by omega), h2]
    cases plT d q <;> simp
   dsimp only
   rw [remitterlaw10_plain.l1, if_pos (by omega), if_pos (by omega), hrd]
   simp only [Bool.false_eq_true, if_false]
   by_cases hs1 : (q.f0.size : Int) > 1
   ·
    rw [if_pos hs1, if_pos (by omega), hat hs1]
    unfold at2B at ha
    rw [decide_eq_true (show 1 < q.f0.size by omega), Bool.true_and] at ha
    rw [ha]
    exact hj
   ·
    rw [if_neg hs1]
    exact hj
  | true =>
   rw [if_pos rfl]
   unfold at2B at ha
   rw [Bool.and_eq_true, decide_eq_true_eq] at ha
   obtain ⟨ha1, ha2⟩ := ha
   have hl2 := pl_l2 ((d + 1 : Nat) : Int) x9 false v.f0 v.f1 v.f2 hv.2.2 q.f0 q.f1 q.f2 i (by omega) _ hA i 0 (by omega)
   rw [List.drop_zero] at hl2
   obtain ⟨K1, hK1⟩ := ink
   obtain ⟨K3, hK3⟩ := hl2
   refine ⟨K1 + K3 + 4, fun k hk => ?_⟩
   obtain ⟨k, rfl⟩ : ∃ j, k = j + 3 := ⟨k - 3, by omega⟩
   have h1 := hK1 (k + 1) (by omega)
   have h3 := hK3 k (by omega)
   simp only at h1 h3
   have h3' : remitterlaw10_plain.l2 k ((d + 1 : Nat) : Int) false x9 (i : Int) 0 v.f0 v.f1 v.f2 q.f0 q.f1 q.f2 = _ := h3
   dsimp only
   rw [remitterlaw10_plain.l1, if_pos (by omega), if_pos (by omega), hrd, if_pos (by omega), if_pos (by omega), hat (by omega), ha2]
   simp only [remitterlaw10_plain.j3, if_true]
   rw [check_f q.f1 (by have := hkk.2.1; omega), Option.bind_some, if_pos (by omega)]
   cases el with
   | true => simp [remitterlaw10_plain.j4]
   | false =>
    rw [if_neg (by simp)]
    cases g5 : q.f2 with
    | cons x y => rw [if_pos (by simp)]; simp [remitterlaw10_plain.j4]
    | nil =>
     rw [g5] at h3'
     rw [if_neg (by simp)]
     unfold goodB
     by_cases g4 : (ckL q.f1.data.toList).2 = 0
     ·
      rw [if_pos g4, decide_eq_true g4, h1, Option.bind_some]
      cases g2 : nameP (atL q)
      ·
       simp [remitterlaw10_plain.j4]
      ·
       rw [if_pos rfl, toL, hx]
       by_cases g3 : atL q = [120, 109, 108, 110, 115]
       ·
        rw [g3]
        simp [remitterlaw10_plain.j4]
       ·
        rw [beq_eq_false_iff_ne.2 g3]
        simp only [remitterlaw10_plain.j4, Bool.false_eq_true, if_false]
        rw [h3']
        simp
     ·
      rw [if_neg g4, decide_eq_false g4]
      simp [remitterlaw10_plain.j4]
theorem pl_step (d : Nat) (hd : d < 100) (v : S24) (hv : sized v) (hk : ∀ k ∈ v.f2, sized k)
  (ih : ∀ k ∈ v.f2, Ev (fun n => remitterlaw10_plain.f n k.f0 k.f1 k.f2 (d : Int)) (plT d k))
  (inn : ∀ k ∈ v.f2, Ev (fun n => remitterlaw10_plain.f n (k.f0.extract 1 k.f0.size) ⟨#[]⟩ [] 1) (nameP (atL k))) :
  Ev (fun n => remitterlaw10_plain.f n v.f0 v.f1 v.f2 ((d + 1 : Nat) : Int)) (plT (d + 1) v) := by
 have hsz := sz_list v.f0
 have h1 := pl_l1 d (by omega) v hv hk ((ckL v.f1.data.toList).2) v.f1.data.toList.isEmpty (by rw [toL]; cases v.f1.data.toList <;> rfl) ih inn v.f2.length 0 false (by omega)
 rw [List.take_zero, List.drop_zero] at h1
 have h2 : Ev (fun k => (text_Check.f v.f1).bind fun bt => remitterlaw10_plain.l1 k ((d + 1 : Nat) : Int) false bt.2 0 v.f0 v.f1 v.f2) (plK (plT d) (goodB v.f1.data.toList) v.f1.data.toList.isEmpty [] false v.f2) := by
  obtain ⟨K, hK⟩ := h1
  refine ⟨K, fun k hk => ?_⟩
  have h := hK k hk
  dsimp only at h ⊢
  rw [check_f v.f1 (by have := hv.2.1; omega), Option.bind_some]
  exact h
 obtain ⟨K, hK⟩ := pl_l0 ((d + 1 : Nat) : Int) v.f0 v.f1 v.f2 hv.1 _ h2 v.f0.size 0 (by omega)
 refine ⟨K + 3, fun k hk => ?_⟩
 obtain ⟨k, rfl⟩ : ∃ j, k = j + 2 := ⟨k - 2, by omega⟩
 have h3 := hK k (by omega)
 rw [List.drop_zero] at h3
 have h3' : remitterlaw10_plain.l0 k ((d + 1 : Nat) : Int) false 0 v.f0 v.f1 v.f2 = _ := h3
 dsimp only
 rw [remitterlaw10_plain.f, if_neg (by omega), toL]
 simp only [plT, nameP]
 by_cases e0 : v.f0.data.toList = []
 ·
  rw [if_pos e0, e0]
  simp [remitterlaw10_plain.j0]
 ·
  have e0' : v.f0.data.toList.isEmpty = false := by cases hh : v.f0.data.toList with | nil => exact absurd hh e0 | cons x y => rfl
  rw [if_neg e0, e0']
  by_cases e1 : (v.f0.size : Int) > 20
  ·
   rw [if_pos e1, decide_eq_false (by omega)]
   simp [remitterlaw10_plain.j0]
  ·
   rw [if_neg e1, decide_eq_true (show v.f0.data.toList.length ≤ 20 by omega)]
   by_cases e2 : (v.f2.length : Int) > 20
   ·
    rw [decide_eq_true e2, decide_eq_false (show ¬ v.f2.length ≤ 20 by omega)]
    simp [remitterlaw10_plain.j0]
   ·
    rw [decide_eq_false e2, decide_eq_true (show v.f2.length ≤ 20 by omega)]
    simp only [remitterlaw10_plain.j0, Bool.false_eq_true, if_false]
    rw [h3']
    simp
theorem pl_inner (s : ByteArray) (hs : s.size ≤ 5000) : Ev (fun n => remitterlaw10_plain.f n s ⟨#[]⟩ [] 1) (nameP s.data.toList) := by
 have h := pl_step 0 (by omega) ⟨s, ⟨#[]⟩, []⟩ ⟨hs, Nat.zero_le _, Nat.zero_le _⟩ (by intro k hk; cases hk) (by intro k hk; cases hk) (by intro k hk; cases hk)
 have e : plT (0 + 1) ⟨s, ⟨#[]⟩, []⟩ = nameP s.data.toList := by
  simp only [plT, plK]
  have : goodB ([] : List UInt8) = true := by decide
  simp [this]
 rw [e] at h
 exact h
theorem plain_ev : ∀ (d : Nat), d ≤ 100 → ∀ (v : S24), smallT d v → Ev (fun k => remitterlaw10_plain.f k v.f0 v.f1 v.f2 (d : Int)) (plT d v)
 | 0, hd, v, hv => by
  refine ⟨2, fun k hk => ?_⟩
  obtain ⟨k, rfl⟩ : ∃ j, k = j + 2 := ⟨k - 2, by omega⟩
  dsimp only
  rw [remitterlaw10_plain.f, if_pos (show ((0 : Nat) : Int) = 0 from rfl), remitterlaw10_plain.j0, if_pos rfl]
  rfl
 | d + 1, hd, v, hv => by
  refine pl_step d (by omega) v hv.1 (fun k h => (hv.2 k h).top) (fun k h => plain_ev d (by omega) k (hv.2 k h)) (fun k h => ?_)
  have hs := (hv.2 k h).top.1
  have := pl_inner (k.f0.extract 1 k.f0.size) (by rw [ByteArray.size_extract]; omega)
  rw [ext_atL] at this
  exact this
end Go.Proofs.YtknfpggiigncpaaGreatDoor.E
