/- The tokens of two texts, one behind the other, with a comment between and without: plain. -/
import Derived.Test.YtknfpggiigncpaaGreatDoorTb1
set_option linter.unusedVariables false
set_option linter.unusedSimpArgs false
namespace Go.Proofs.YtknfpggiigncpaaGreatDoor.C
open Go.RowKit Go.Proofs.YtknfpggiigncpaaGreatDoor.P Go.Proofs.YtknfpggiigncpaaGreatDoorW.PrintWords

def ErrNZ {α : Type} (r : Except (Nat × Int) α) : Prop := ∀ z, r = .error z → z.2 ≠ 0
theorem nz_ok {α : Type} {v : α} : ErrNZ (Except.ok v : Except (Nat × Int) α) := fun z h => by cases h
theorem nz_err {α : Type} {a : Nat} {er : Int} (h : er ≠ 0) : ErrNZ (Except.error (a, er) : Except (Nat × Int) α) := fun z hz => by cases hz; exact h
theorem nz_until (s : ByteArray) (p : Nat) (t : List UInt8) : ErrNZ (untilT s p t) := by
  unfold untilT
  split
  · exact nz_ok
  · exact nz_err (by decide)
theorem nz_name (s : ByteArray) (p : Nat) : ErrNZ (nameT s p) := by
  unfold nameT
  split
  · exact nz_err (by decide)
  · exact nz_ok
theorem nz_must (s : ByteArray) (p : Nat) (t : List UInt8) : ErrNZ (mustT s p t) := by
  unfold mustT
  split
  · exact nz_ok
  · exact nz_err (by decide)
theorem nz_plain (l : List UInt8) (b : Nat) : ErrNZ (plainT l b) := by
  unfold plainT
  split
  · exact nz_ok
  · rename_i h
    exact nz_err h
theorem nz_of {α β : Type} {r : Except (Nat × Int) α} (h : ErrNZ r) {z : Nat × Int} (e : r = .error z) : ErrNZ (Except.error z : Except (Nat × Int) β) := fun y hy => by cases hy; exact h z e
theorem nz_attr1 (s : ByteArray) (p : Nat) (acc : List S77) : ErrNZ (attr1T s p acc) := by
  unfold attr1T
  cases h1 : nameT s p with
  | error z => exact nz_of (nz_name _ _) h1
  | ok y =>
    obtain ⟨nm, p2⟩ := y
    simp only
    cases h2 : mustT s (p3T s p2) [61] with
    | error z => exact nz_of (nz_must _ _ _) h2
    | ok p4 =>
      simp only
      split
      · exact nz_err (by decide)
      · cases h3 : untilT s (p3T s p4 + 1) ((rs s (p3T s p4)).take 1) with
        | error z => exact nz_of (nz_until _ _ _) h3
        | ok y =>
          obtain ⟨v, p7⟩ := y
          simp only
          split
          · exact nz_err (by decide)
          · cases h4 : plainT v (p3T s p4 + 1) with
            | error z => exact nz_of (nz_plain _ _) h4
            | ok y => exact nz_ok
theorem nz_attrs (s : ByteArray) : ∀ (f p : Nat) (acc : List S77), ErrNZ (attrsT s f p acc)
  | 0, p, acc => nz_ok
  | f + 1, p, acc => by
    simp only [attrsT]
    split
    · cases h1 : attr1T s (p3T s p) acc with
      | error z => exact nz_of (nz_attr1 _ _ _) h1
      | ok y => exact nz_attrs s f y.2 _
    · exact nz_ok
theorem nz_tk1 (s : ByteArray) (p : Nat) (xs : List S44) : ErrNZ (tk1T s p xs) := by
  unfold tk1T
  split
  · unfold form1R form1T
    cases hu : untilT s (p + 4) [45, 45, 62] with
    | error x => exact fun z hz => by cases hz; exact nz_until _ _ _ x hu
    | ok y =>
      simp only
      split
      · exact nz_err (by decide)
      · exact nz_ok
  · unfold form2T
    cases hu : untilT s (p + 9) [93, 93, 62] with
    | error z => exact nz_of (nz_until _ _ _) hu
    | ok y => exact nz_ok
  · unfold form3T
    cases hu : nameT s (p + 2) with
    | error z => exact nz_of (nz_name _ _) hu
    | ok y =>
      simp only
      cases hm : mustT s (y.2 + blankN (rs s y.2)) [62] with
      | error z => exact nz_of (nz_must _ _ _) hm
      | ok y => exact nz_ok
  · unfold form4T
    cases hu : nameT s (p + 1) with
    | error z => exact nz_of (nz_name _ _) hu
    | ok y =>
      simp only
      cases ha : attrsT s (s.size + 1 - y.2) y.2 [] with
      | error z => exact nz_of (nz_attrs _ _ _ _) ha
      | ok x =>
        simp only
        cases hm : mustT s (selfN s x.2) [62] with
        | error z => exact nz_of (nz_must _ _ _) hm
        | ok y => exact nz_ok
  · unfold textTk
    cases hu : plainT (Lib.cut (rs s p) [60]).1 p with
    | error z => exact nz_of (nz_plain _ _) hu
    | ok y => exact nz_ok
theorem nz_tk (s : ByteArray) : ∀ (f p : Nat) (xs : List S44), ErrNZ (tkT s f p xs)
  | 0, p, xs => nz_ok
  | f + 1, p, xs => by
    simp only [tkT]
    split
    · cases h1 : tk1T s p xs with
      | error z => exact nz_of (nz_tk1 _ _ _) h1
      | ok y => exact nz_tk s f y.1 y.2
    · exact nz_ok
theorem nz_start (s : ByteArray) : ErrNZ (startT s) := by
  unfold startT
  split
  · cases h1 : untilT s 5 [63, 62] with
    | error z => exact nz_of (nz_until _ _ _) h1
    | ok y =>
      simp only
      split
      · exact nz_err (by decide)
      · exact nz_ok
  · exact nz_ok
theorem nz_read (s : ByteArray) : ErrNZ (readT s) := by
  unfold readT
  cases h1 : startT s with
  | error z => exact nz_of (nz_start _) h1
  | ok q => exact nz_tk _ _ _ _
theorem tokR_no {s : ByteArray} (h : (tokR s).2.2 ≠ 0) : (tokR s).1 = [] := by
  unfold tokR at h ⊢
  split
  · rfl
  · split
    · rfl
    · rename_i h1 h2
      rw [if_neg h1, if_neg h2] at h
      cases hr : readT s with
      | ok xs => rw [hr] at h; exact absurd rfl h
      | error z => rfl
theorem tokR_ok {s : ByteArray} (h : (tokR s).2.2 = 0) : s.size ≤ 1048576 ∧ (ckL s.data.toList).2 = 0 ∧ readT s = .ok (tokR s).1 := by
  unfold tokR at h ⊢
  split
  · rename_i h1
    rw [if_pos h1] at h
    cases h
  · rename_i h1
    rw [if_neg h1] at h
    split
    · rename_i h2
      rw [if_pos h2] at h
      exact absurd h h2
    · rename_i h2
      rw [if_neg h2] at h
      cases hr : readT s with
      | ok xs => exact ⟨by omega, by simpa using h2, rfl⟩
      | error z =>
        rw [hr] at h
        exact absurd h (nz_read s z hr)
theorem tokR_mk {s : ByteArray} {xs : List S44} (h1 : s.size ≤ 1048576) (h2 : (ckL s.data.toList).2 = 0) (h3 : readT s = .ok xs) : tokR s = (xs, (s.size : Int), 0) := by
  unfold tokR
  rw [if_neg (by omega), if_neg (by rw [h2]; simp), h3]
theorem tk_end (s : ByteArray) (k p : Nat) (xs : List S44) (h : s.size ≤ p) : tkT s k p xs = .ok xs := by
  cases k with
  | zero => rfl
  | succ k => simp only [tkT]; rw [if_neg (by omega)]
def xmlP : List UInt8 := [60, 63, 120, 109, 108]
theorem rs_zero (s : ByteArray) : rs s 0 = s.data.toList := by unfold rs; rw [List.drop_zero]
theorem start_app {s S : ByteArray} {x : List UInt8} (hS : S.data.toList = s.data.toList ++ x) (hx : LtX x) (hn : Lib.hasPrefix x xmlP = false) {q : Nat} (h : startT s = .ok q) : q ≤ s.size ∧ startT S = .ok q := by
  have hp : Lib.hasPrefix S.data.toList xmlP = Lib.hasPrefix s.data.toList xmlP := by
    rw [hS]
    cases hl : s.data.toList with
    | nil =>
      rw [List.nil_append, hn]
      rfl
    | cons b l => exact hp_app1 [63, 120, 109, 108] b l x hx (by decide)
  change Lib.hasPrefix S.data.toList [60, 63, 120, 109, 108] = Lib.hasPrefix s.data.toList [60, 63, 120, 109, 108] at hp
  unfold startT at h ⊢
  rw [hp]
  split at h
  · rename_i h1
    rw [if_pos h1]
    have hlen := Lib.hasPrefix_le h1
    rw [← Lib.size_eq] at hlen
    simp at hlen
    have hlS := congrArg List.length hS
    rw [List.length_append, ← Lib.size_eq, ← Lib.size_eq] at hlS
    have hsim : Sim s 5 S 5 x := ⟨hx, hlen, by unfold rs; rw [hS, List.drop_append_of_le_length (by rw [← Lib.size_eq]; exact hlen)], by omega⟩
    cases hu : untilT s 5 [63, 62] with
    | error z => rw [hu] at h; cases h
    | ok y =>
      obtain ⟨a, q'⟩ := y
      obtain ⟨k, rfl, l1, _, H⟩ := sim_until hsim (by decide) hu
      rw [hu] at h
      rw [H]
      simp only at h ⊢
      split at h
      · cases h
      · rename_i hc
        injection h with h
        rw [if_neg hc]
        exact ⟨by omega, by rw [h]⟩
  · rename_i h1
    rw [if_neg h1]
    injection h with h
    exact ⟨by omega, by rw [h]⟩
theorem row_ge : ∀ (l : List S44) (lo hi : Int), Row lo hi l → ∀ t ∈ l, lo ≤ t.f5
  | [], lo, hi, _, t, ht => by cases ht
  | u :: l, lo, hi, hr, t, ht => by
    rcases List.mem_cons.1 ht with rfl | ht
    · exact hr.1
    · have := row_ge l _ hi hr.2 t ht
      have := hr.1
      omega
theorem sim_zero {s S : ByteArray} {x : List UInt8} (hS : S.data.toList = s.data.toList ++ x) (hx : LtX x) (q : Nat) (hq : q ≤ s.size) : Sim s q S q x := by
  have hlS := congrArg List.length hS
  rw [List.length_append, ← Lib.size_eq, ← Lib.size_eq] at hlS
  exact ⟨hx, hq, by unfold rs; rw [hS, List.drop_append_of_le_length (by rw [← Lib.size_eq]; exact hq)], by omega⟩
theorem tk_all {s S : ByteArray} {x : List UInt8} {a : List S44} (hS : S.data.toList = s.data.toList ++ x) (hx : LtX x) (hn : Lib.hasPrefix x xmlP = false) (h : readT s = .ok a) :
    ∃ n q : Nat, startT S = .ok q ∧ n + q ≤ s.size ∧ Row (q : Int) (s.size : Int) a ∧ ∀ k zs, tkT S (n + k) q zs = tkT S k s.size (zs ++ a) := by
  unfold readT at h
  cases hst : startT s with
  | error z => rw [hst] at h; cases h
  | ok q =>
    obtain ⟨hq, hS2⟩ := start_app hS hx hn hst
    rw [hst] at h
    simp only at h
    obtain ⟨n, new, hnq, e, hR, hT⟩ := sim_tk (s.size + 1) (sim_zero hS hx q hq) (by omega) h
    rw [List.nil_append] at e
    subst e
    refine ⟨n, q, hS2, hnq, hR, fun k zs => ?_⟩
    rw [hT, show q + (s.size - q) = s.size by omega]
    congr 2
    refine (List.map_congr_left fun t ht => ?_).trans (List.map_id _)
    have := row_ge _ _ _ hR t ht
    show shT (q + (t.f5.toNat - q)) t = t
    unfold shT
    rw [show ((q + (t.f5.toNat - q) : Nat) : Int) = t.f5 by omega]
def mvT (n : Nat) (t : S44) : S44 := ⟨t.f0, t.f1, t.f2, t.f3, t.f4, t.f5 + (n : Int)⟩
theorem rs_app {s S : ByteArray} {x : List UInt8} (hS : S.data.toList = s.data.toList ++ x) : rs S s.size = x := by
  unfold rs
  rw [hS, Lib.size_eq, List.drop_left]
theorem start_no {t : ByteArray} (hn : Lib.hasPrefix t.data.toList xmlP = false) : startT t = .ok 0 := by
  unfold startT
  change Lib.hasPrefix t.data.toList [60, 63, 120, 109, 108] = false at hn
  rw [if_neg (by rw [hn]; simp)]
/-- The tokens of a text at the end of another one. -/
theorem tk_tail {t S : ByteArray} {P : Nat} {b : List S44} (hS : rs S P = t.data.toList) (hP : P + t.size = S.size) (hn : Lib.hasPrefix t.data.toList xmlP = false) (h : readT t = .ok b) :
    Row 0 (t.size : Int) b ∧ ∀ (k : Nat) (zs : List S44), t.size ≤ k → tkT S k P zs = .ok (zs ++ b.map (mvT P)) := by
  unfold readT at h
  rw [start_no hn] at h
  simp only at h
  have hsim : Sim t 0 S P [] := ⟨.inl rfl, Nat.zero_le _, by rw [hS, rs_zero, List.append_nil], by omega⟩
  obtain ⟨n, new, hnq, e, hR, hT⟩ := sim_tk (t.size + 1) hsim (by omega) h
  rw [List.nil_append] at e
  subst e
  refine ⟨hR, fun k zs hk => ?_⟩
  obtain ⟨j, rfl⟩ : ∃ j, k = n + j := ⟨k - n, by omega⟩
  rw [hT, tk_end _ _ _ _ (by omega)]
  congr 2
  refine List.map_congr_left fun u hu => ?_
  have := row_ge _ _ _ hR u hu
  unfold shT mvT
  congr 1
  omega
def midB : List UInt8 := [60, 33, 45, 45, 32, 45, 32, 45, 45, 62]
theorem mid_tk : tk1T ⟨midB.toArray⟩ 0 [] = .ok (10, []) := by kernel_rfl
theorem mid_ck : ∀ b ∈ midB, b.toNat < 128 ∧ xmlB b.toNat = true := by decide +kernel
theorem row_map (n : Nat) : ∀ (l : List S44) (lo hi : Int), Row lo hi l → Row (lo + n) (hi + n) (l.map (mvT n))
  | [], lo, hi, h => by
    have : lo ≤ hi := h
    show lo + n ≤ hi + n
    omega
  | t :: l, lo, hi, h => by
    have h1 := h.1
    have := row_map n l _ hi h.2
    refine ⟨by show lo + n ≤ t.f5 + n; omega, ?_⟩
    show Row (t.f5 + n + 1) _ _
    rw [show t.f5 + n + 1 = t.f5 + 1 + n by omega]
    exact this
/-- Two texts, one behind the other. -/
theorem two_texts {s t S : ByteArray} (hS : S.data.toList = s.data.toList ++ t.data.toList) (hx : LtX t.data.toList) (hn : Lib.hasPrefix t.data.toList xmlP = false) (hs : (tokR s).2.2 = 0) (ht : (tokR t).2.2 = 0) (hl : S.size ≤ 1048576) :
    tokR S = ((tokR s).1 ++ (tokR t).1.map (mvT s.size), (S.size : Int), 0) ∧ Row 0 (S.size : Int) ((tokR s).1 ++ (tokR t).1.map (mvT s.size)) := by
  obtain ⟨_, c1, r1⟩ := tokR_ok hs
  obtain ⟨_, c2, r2⟩ := tokR_ok ht
  have hlS := congrArg List.length hS
  rw [List.length_append, ← Lib.size_eq, ← Lib.size_eq, ← Lib.size_eq] at hlS
  obtain ⟨n, q, hst, hnq, hR, hT⟩ := tk_all hS hx hn r1
  obtain ⟨hR2, hT2⟩ := tk_tail (P := s.size) (rs_app hS) (by omega) hn r2
  have hRow : Row 0 (S.size : Int) ((tokR s).1 ++ (tokR t).1.map (mvT s.size)) := by
    refine row_app _ _ _ (s.size : Int) _ (row_mono _ _ _ _ _ (by omega) (Int.le_refl _) hR) ?_
    have := row_map s.size _ _ _ hR2
    exact row_mono _ _ _ _ _ (by omega) (by omega) this
  refine ⟨tokR_mk hl ?_ ?_, hRow⟩
  · rw [hS]
    have := (ck_append _ s.data.toList t.data.toList (Nat.le_refl _)).1 c1
    rw [this.2]
    exact c2
  · unfold readT
    rw [hst]
    simp only
    obtain ⟨k, hk⟩ : ∃ k, S.size + 1 = n + k := ⟨S.size + 1 - n, by omega⟩
    rw [hk, hT, List.nil_append, hT2 k _ (by omega)]
/-- Two texts, and a comment between. -/
theorem three_texts {s t S : ByteArray} (hS : S.data.toList = s.data.toList ++ (midB ++ t.data.toList)) (hx : LtX t.data.toList) (hn : Lib.hasPrefix t.data.toList xmlP = false) (hs : (tokR s).2.2 = 0) (ht : (tokR t).2.2 = 0) (hl : S.size ≤ 1048576) :
    tokR S = ((tokR s).1 ++ (tokR t).1.map (mvT (s.size + 10)), (S.size : Int), 0) ∧ Row 0 (S.size : Int) ((tokR s).1 ++ (tokR t).1.map (mvT (s.size + 10))) := by
  obtain ⟨_, c1, r1⟩ := tokR_ok hs
  obtain ⟨_, c2, r2⟩ := tokR_ok ht
  have hlS := congrArg List.length hS
  rw [List.length_append, List.length_append, ← Lib.size_eq, ← Lib.size_eq, ← Lib.size_eq, show midB.length = 10 from rfl] at hlS
  obtain ⟨n, q, hst, hnq, hR, hT⟩ := tk_all hS (.inr ⟨_, rfl⟩) (by rfl) r1
  have hrs : rs S (s.size + 10) = t.data.toList := by
    have h1 : rs S (s.size + 10) = (rs S s.size).drop 10 := by unfold rs; rw [List.drop_drop]
    rw [h1, rs_app hS]
    rfl
  obtain ⟨hR2, hT2⟩ := tk_tail (P := s.size + 10) hrs (by omega) hn r2
  have hsim : Sim ⟨midB.toArray⟩ 0 S s.size t.data.toList := ⟨hx, Nat.zero_le _, by rw [rs_app hS]; rfl, by omega⟩
  obtain ⟨k1, new, e1, _, _, _, _, e2, hT1⟩ := sim_tk1 hsim (by decide) mid_tk
  have hk1 : k1 = 10 := by omega
  have hnew : new = [] := by simpa using e2.symm
  subst hk1
  subst hnew
  have hRow : Row 0 (S.size : Int) ((tokR s).1 ++ (tokR t).1.map (mvT (s.size + 10))) := by
    refine row_app _ _ _ (s.size : Int) _ (row_mono _ _ _ _ _ (by omega) (Int.le_refl _) hR) ?_
    have := row_map (s.size + 10) _ _ _ hR2
    exact row_mono _ _ _ _ _ (by omega) (by omega) this
  refine ⟨tokR_mk hl ?_ ?_, hRow⟩
  · rw [hS]
    have := (ck_append _ s.data.toList (midB ++ t.data.toList) (Nat.le_refl _)).1 c1
    rw [this.2, ck_asciis _ _ mid_ck]
    exact c2
  · unfold readT
    rw [hst]
    simp only
    obtain ⟨k, hk⟩ : ∃ k, S.size + 1 = n + (k + 1) := ⟨S.size - n, by omega⟩
    rw [hk, hT, List.nil_append]
    simp only [tkT]
    rw [if_pos (by omega), hT1]
    simp only
    rw [hT2 k _ (by omega)]
    simp
end Go.Proofs.YtknfpggiigncpaaGreatDoor.C
