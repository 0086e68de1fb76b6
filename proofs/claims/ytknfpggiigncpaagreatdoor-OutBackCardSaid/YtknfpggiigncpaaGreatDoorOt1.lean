/- May a tree be written: the program's way over all its parts, and the document's way by shapes: plain. -/
import Derived.Test.YtknfpggiigncpaaGreatDoorXRepl
import Derived.Test.YtknfpggiigncpaaGreatDoorAx1
set_option linter.unusedVariables false
set_option linter.unusedSimpArgs false
section
namespace Go.Proofs.YtknfpggiigncpaaGreatDoor.P
def isC (b : UInt8) : Bool := b.toNat / 64 == 2
def decV (b v0 v1 v2 : Nat) (c1 c2 c3 : Bool) : Nat × Nat :=
 if b < 128 then (b, 1)
 else if b / 32 == 6 && c1 then
  if (b % 32) * 64 + v0 % 64 ≥ 128 then ((b % 32) * 64 + v0 % 64, 2) else (65533, 1)
 else if b / 16 == 14 && c1 && c2 then
  if (b % 16) * 4096 + (v0 % 64) * 64 + v1 % 64 ≥ 2048 && Utf8.valid ((b % 16) * 4096 + (v0 % 64) * 64 + v1 % 64 : Nat) then ((b % 16) * 4096 + (v0 % 64) * 64 + v1 % 64, 3) else (65533, 1)
 else if b / 8 == 30 && c1 && c2 && c3 then
  if (b % 8) * 262144 + (v0 % 64) * 4096 + (v1 % 64) * 64 + v2 % 64 ≥ 65536 && Utf8.valid ((b % 8) * 262144 + (v0 % 64) * 4096 + (v1 % 64) * 64 + v2 % 64 : Nat) then ((b % 8) * 262144 + (v0 % 64) * 4096 + (v1 % 64) * 64 + v2 % 64, 4) else (65533, 1)
 else (65533, 1)
def decC (b : UInt8) (l : List UInt8) : Nat × Nat := decV b.toNat (l.getD 0 0).toNat (l.getD 1 0).toNat (l.getD 2 0).toNat (decide (0 < l.length)) (decide (1 < l.length)) (decide (2 < l.length))
theorem tw_len : ∀ (r : List UInt8) (k : Nat), k < (r.takeWhile isC).length ↔ ∀ j, j ≤ k → j < r.length ∧ isC (r.getD j 0) = true
 | [], k => by
  simp
  exact ⟨0, Nat.zero_le _⟩
 | x :: r, k => by
  rw [List.takeWhile_cons]
  cases hx : isC x with
  | false =>
   simp only [Bool.false_eq_true, if_false, List.length_nil, Nat.not_lt_zero, false_iff]
   intro h
   have := (h 0 (Nat.zero_le _)).2
   simp [hx] at this
  | true =>
   simp only [if_true, List.length_cons]
   cases k with
   | zero =>
    simp only [Nat.zero_lt_succ, true_iff]
    intro j hj
    obtain rfl : j = 0 := by omega
    simpa using hx
   | succ k =>
    rw [Nat.add_lt_add_iff_right, tw_len r k]
    constructor
    ·
     intro h j hj
     cases j with
     | zero => simpa using hx
     | succ j =>
      have := h j (by omega)
      simpa using this
    ·
     intro h j hj
     have := h (j + 1) (by omega)
     simpa using this
theorem tw_get : ∀ (r : List UInt8) (k : Nat), k < (r.takeWhile isC).length → (r.takeWhile isC).getD k 0 = r.getD k 0
 | [], k, h => by simp at h
 | x :: r, k, h => by
  rw [List.takeWhile_cons] at h ⊢
  cases hx : isC x with
  | false => rw [hx] at h; simp at h
  | true =>
   rw [hx] at h
   simp only [if_true, List.length_cons] at h ⊢
   cases k with
   | zero => rfl
   | succ k =>
    have := tw_get r k (by omega)
    simpa using this
theorem decode_dec (s : ByteArray) (i : Nat) (b : UInt8) (r : List UInt8) (h : s.data.toList.drop i = b :: r) : Utf8.decode s i = decC b (r.takeWhile isC) := by
 have hget : ∀ k, s.get! (i + k) = (b :: r).getD k 0 := fun k => by
  rw [← Lib.getD_get!', ← h]
  simp [List.getD_eq_getElem?_getD]
 have hsz : s.size = i + (r.length + 1) := by
  have := congrArg List.length h
  rw [List.length_drop, List.length_cons, show s.data.toList.length = s.size by simp] at this
  omega
 have e0 : s.get! (i + 0) = b := hget 0
 have e1 : s.get! (i + 1) = r.getD 0 0 := hget 1
 have e2 : s.get! (i + 2) = r.getD 1 0 := hget 2
 have e3 : s.get! (i + 3) = r.getD 2 0 := hget 3
 have l0 := tw_len r 0
 have l1 := tw_len r 1
 have l2 := tw_len r 2
 have g0 := tw_get r 0
 have g1 := tw_get r 1
 have g2 := tw_get r 2
 generalize r.takeWhile isC = t at *
 have k1 : decide (0 < t.length) = (decide (i + 1 < s.size) && (s.get! (i + 1)).toNat / 64 == 2) := by
  rw [e1, Bool.eq_iff_iff, decide_eq_true_iff, l0, Bool.and_eq_true, decide_eq_true_iff]
  constructor
  ·
   intro h
   have := h 0 (Nat.le_refl _)
   exact ⟨by omega, this.2⟩
  ·
   rintro ⟨h1, h2⟩ j hj
   obtain rfl : j = 0 := by omega
   exact ⟨by omega, h2⟩
 have k2 : decide (1 < t.length) = ((decide (i + 1 < s.size) && (s.get! (i + 1)).toNat / 64 == 2) && (decide (i + 2 < s.size) && (s.get! (i + 2)).toNat / 64 == 2)) := by
  rw [← k1, e2, Bool.eq_iff_iff, decide_eq_true_iff, l1, Bool.and_eq_true, decide_eq_true_iff, l0, Bool.and_eq_true, decide_eq_true_iff]
  constructor
  ·
   intro h
   have := h 1 (Nat.le_refl _)
   exact ⟨fun j hj => h j (by omega), by omega, this.2⟩
  ·
   rintro ⟨h0, h1, h2⟩ j hj
   by_cases hj1 : j = 1
   ·
    subst hj1; exact ⟨by omega, h2⟩
   ·
    exact h0 j (by omega)
 have k3 : decide (2 < t.length) = (((decide (i + 1 < s.size) && (s.get! (i + 1)).toNat / 64 == 2) && (decide (i + 2 < s.size) && (s.get! (i + 2)).toNat / 64 == 2)) && (decide (i + 3 < s.size) && (s.get! (i + 3)).toNat / 64 == 2)) := by
  rw [← k2, e3, Bool.eq_iff_iff, decide_eq_true_iff, l2, Bool.and_eq_true, decide_eq_true_iff, l1, Bool.and_eq_true, decide_eq_true_iff]
  constructor
  ·
   intro h
   have := h 2 (Nat.le_refl _)
   exact ⟨fun j hj => h j (by omega), by omega, this.2⟩
  ·
   rintro ⟨h0, h1, h2⟩ j hj
   by_cases hj1 : j = 2
   ·
    subst hj1; exact ⟨by omega, h2⟩
   ·
    exact h0 j (by omega)
 have hd : Utf8.decode s i = decV (s.get! (i + 0)).toNat (s.get! (i + 1)).toNat (s.get! (i + 2)).toNat (s.get! (i + 3)).toNat (decide (i + 1 < s.size) && (s.get! (i + 1)).toNat / 64 == 2) (decide (i + 2 < s.size) && (s.get! (i + 2)).toNat / 64 == 2) (decide (i + 3 < s.size) && (s.get! (i + 3)).toNat / 64 == 2) := rfl
 rw [hd]
 generalize (decide (i + 1 < s.size) && (s.get! (i + 1)).toNat / 64 == 2) = c1 at k1 k2 k3 ⊢
 generalize (decide (i + 2 < s.size) && (s.get! (i + 2)).toNat / 64 == 2) = c2 at k2 k3 ⊢
 generalize (decide (i + 3 < s.size) && (s.get! (i + 3)).toNat / 64 == 2) = c3 at k3 ⊢
 unfold decC
 rw [e0, e1, e2, e3]
 cases c1 with
 | false => rw [k1, k2, k3]; simp [decV]
 | true =>
  rw [g0 (of_decide_eq_true k1)]
  cases c2 with
  | false => rw [k1, k2, k3]; simp [decV]
  | true =>
   rw [g1 (of_decide_eq_true k2)]
   cases c3 with
   | false => rw [k1, k2, k3]; simp [decV]
   | true => rw [g2 (of_decide_eq_true k3), k1, k2, k3]; rfl
theorem decC_len (b : UInt8) (l : List UInt8) : 1 ≤ (decC b l).2 ∧ (decC b l).2 ≤ 1 + l.length := by
 unfold decC decV
 repeat' split
 all_goals simp_all
 all_goals omega
theorem decC_append (b : UInt8) (l m : List UInt8) (h : decC b l ≠ (65533, 1)) : decC b (l ++ m) = decC b l := by
 unfold decC decV at h ⊢
 by_cases hb : b.toNat < 128
 ·
  rw [if_pos hb, if_pos hb]
 rw [if_neg hb] at h ⊢
 rw [if_neg hb]
 by_cases h1 : b.toNat / 32 = 6
 ·
  have e16 : b.toNat / 16 ≠ 14 := by omega
  have e8 : b.toNat / 8 ≠ 30 := by omega
  match l with
  | [] => simp [h1, e16, e8] at h
  | x :: l => simp [h1]
 ·
  by_cases h2 : b.toNat / 16 = 14
  ·
   have e8 : b.toNat / 8 ≠ 30 := by omega
   match l with
   | [] => simp [h1, h2, e8] at h
   | [x] => simp [h1, h2, e8] at h
   | x :: y :: l => simp [h1, h2]
  ·
   by_cases h3 : b.toNat / 8 = 30
   ·
    match l with
    | [] => simp [h1, h2, h3] at h
    | [x] => simp [h1, h2, h3] at h
    | [x, y] => simp [h1, h2, h3] at h
    | x :: y :: z :: l => simp [h1, h2, h3]
   ·
    simp [h1, h2, h3] at h
def ckl : Nat → List UInt8 → Nat × Int
 | 0, l => (l.length, 0)
 | _ + 1, [] => (0, 0)
 | f + 1, b :: r =>
  if decC b (r.takeWhile isC) = (65533, 1) then (0, 20)
  else if xmlB (decC b (r.takeWhile isC)).1 = true then ((decC b (r.takeWhile isC)).2 + (ckl f (r.drop ((decC b (r.takeWhile isC)).2 - 1))).1, (ckl f (r.drop ((decC b (r.takeWhile isC)).2 - 1))).2)
  else (0, 15)
theorem ck_ckl (s : ByteArray) : ∀ (f : Nat) (i : Nat), i ≤ s.size → s.size ≤ i + f → ck s f i = (i + (ckl f (s.data.toList.drop i)).1, (ckl f (s.data.toList.drop i)).2)
 | 0, i, h1, h2 => by
  simp [ck, ckl]
  omega
 | f + 1, i, h1, h2 => by
  cases hd : s.data.toList.drop i with
  | nil =>
   have : s.data.toList.length - i = 0 := by rw [← List.length_drop, hd]; rfl
   have hs : s.data.toList.length = s.size := by simp
   rw [ck_end _ _ _ (by omega)]
   simp [ckl]
   omega
  | cons b r =>
   have hl : s.data.toList.length - i = r.length + 1 := by rw [← List.length_drop, hd]; rfl
   have hs : s.data.toList.length = s.size := by simp
   have hlen := decC_len b (r.takeWhile isC)
   have htw : (r.takeWhile isC).length ≤ r.length := (List.takeWhile_sublist _).length_le
   rw [ck_step _ _ _ (by omega), decode_dec s i b r hd]
   have hdr : s.data.toList.drop (i + (decC b (r.takeWhile isC)).2) = r.drop ((decC b (r.takeWhile isC)).2 - 1) := by
    rw [← List.drop_drop, hd]
    obtain ⟨n, hn⟩ : ∃ n, (decC b (r.takeWhile isC)).2 = n + 1 := ⟨(decC b (r.takeWhile isC)).2 - 1, by omega⟩
    rw [hn]
    rfl
   have ih := ck_ckl s f (i + (decC b (r.takeWhile isC)).2) (by omega) (by omega)
   rw [hdr] at ih
   simp only [ckl]
   by_cases he : decC b (r.takeWhile isC) = (65533, 1)
   ·
    rw [if_pos he, if_pos (by rw [he]; exact ⟨rfl, rfl⟩)]
    rfl
   ·
    rw [if_neg he, if_neg (fun h => he (Prod.ext h.1 h.2))]
    split
    ·
     rw [ih]
     simp only [Nat.add_assoc]
    ·
     rfl
theorem ckl_fuel : ∀ (n f g : Nat) (l : List UInt8), l.length ≤ n → l.length ≤ f → l.length ≤ g → ckl f l = ckl g l
 | _, f, g, [], _, _, _ => by cases f <;> cases g <;> rfl
 | 0, _, _, b :: r, h, _, _ => by simp at h
 | _, 0, _, b :: r, _, h, _ => by simp at h
 | _, _, 0, b :: r, _, _, h => by simp at h
 | n + 1, f + 1, g + 1, b :: r, h, hf, hg => by
  have hlen := decC_len b (r.takeWhile isC)
  simp only [List.length_cons] at h hf hg
  simp only [ckl]
  rw [ckl_fuel n f g (r.drop ((decC b (r.takeWhile isC)).2 - 1)) (by simp; omega) (by simp; omega) (by simp; omega)]
def ckL (l : List UInt8) : Nat × Int := ckl l.length l
theorem ckL_cons (b : UInt8) (r : List UInt8) : ckL (b :: r) =
  if decC b (r.takeWhile isC) = (65533, 1) then (0, 20)
  else if xmlB (decC b (r.takeWhile isC)).1 = true then ((decC b (r.takeWhile isC)).2 + (ckL (r.drop ((decC b (r.takeWhile isC)).2 - 1))).1, (ckL (r.drop ((decC b (r.takeWhile isC)).2 - 1))).2)
  else (0, 15) := by
 unfold ckL
 rw [List.length_cons]
 simp only [ckl]
 rw [ckl_fuel r.length r.length (r.drop ((decC b (r.takeWhile isC)).2 - 1)).length (r.drop ((decC b (r.takeWhile isC)).2 - 1)) (by simp) (by simp) (Nat.le_refl _)]
theorem ck_ckL (s : ByteArray) : ck s s.size 0 = ckL s.data.toList := by
 have h := ck_ckl s s.size 0 (Nat.zero_le _) (by omega)
 rw [List.drop_zero] at h
 rw [h]
 unfold ckL
 rw [show s.data.toList.length = s.size by simp]
 simp
theorem check_f (s : ByteArray) (h : s.size ≤ 140737488355328) : text_Check.f s = some (((ckL s.data.toList).1 : Int), (ckL s.data.toList).2) := by
 unfold text_Check.f
 rw [if_pos h, ck_ckL]
theorem tw_append : ∀ (r t : List UInt8), ∃ m, (r ++ t).takeWhile isC = r.takeWhile isC ++ m
 | [], t => ⟨t.takeWhile isC, rfl⟩
 | x :: r, t => by
  obtain ⟨m, hm⟩ := tw_append r t
  rw [List.cons_append, List.takeWhile_cons, List.takeWhile_cons]
  split
  ·
   exact ⟨m, by rw [hm]; rfl⟩
  ·
   exact ⟨[], rfl⟩
theorem tw_le (r : List UInt8) : (r.takeWhile isC).length ≤ r.length := (List.takeWhile_sublist _).length_le
theorem ck_append : ∀ (n : Nat) (l t : List UInt8), l.length ≤ n →
  ((ckL l).2 = 0 → (ckL l).1 = l.length ∧ ckL (l ++ t) = (l.length + (ckL t).1, (ckL t).2)) ∧
  ((ckL l).2 ≠ 0 → (ckL l).1 < l.length ∧ ((ckL l).2 = 20 ∨ ((ckL l).2 = 15 ∧ ckL (l ++ t) = ckL l)))
 | _, [], t, _ => ⟨fun _ => ⟨rfl, by simp⟩, fun h => absurd rfl h⟩
 | 0, b :: r, t, h => by simp at h
 | n + 1, b :: r, t, h => by
  simp only [List.length_cons] at h
  have hlen := decC_len b (r.takeWhile isC)
  have htl := tw_le r
  obtain ⟨m, hm⟩ := tw_append r t
  rw [List.cons_append, ckL_cons, ckL_cons, hm]
  by_cases he : decC b (r.takeWhile isC) = (65533, 1)
  ·
   rw [if_pos he]
   exact ⟨fun h => absurd h (by simp), fun _ => ⟨by simp, .inl rfl⟩⟩
  ·
   have hap := decC_append b (r.takeWhile isC) m he
   rw [if_neg he, hap, if_neg he]
   obtain ⟨i1, i2⟩ := ck_append n (r.drop ((decC b (r.takeWhile isC)).2 - 1)) t (by simp; omega)
   have hdt : (r ++ t).drop ((decC b (r.takeWhile isC)).2 - 1) = r.drop ((decC b (r.takeWhile isC)).2 - 1) ++ t := List.drop_append_of_le_length (by omega)
   rw [hdt]
   rw [List.length_drop] at i1 i2
   by_cases hx : xmlB (decC b (r.takeWhile isC)).1 = true
   ·
    rw [if_pos hx, if_pos hx]
    simp only [List.length_cons]
    refine ⟨fun h0 => ?_, fun h0 => ?_⟩
    ·
     obtain ⟨j1, j2⟩ := i1 h0
     rw [j1, j2]
     refine ⟨by omega, ?_⟩
     simp only [Prod.mk.injEq, and_true]
     omega
    ·
     obtain ⟨j1, j2⟩ := i2 h0
     refine ⟨by omega, j2.imp id fun hh => ⟨hh.1, ?_⟩⟩
     rw [hh.2]
   ·
    rw [if_neg hx, if_neg hx]
    exact ⟨fun h => absurd h (by simp), fun _ => ⟨by simp, .inr ⟨rfl, rfl⟩⟩⟩
theorem decC_ascii (b : UInt8) (l : List UInt8) (h : b.toNat < 128) : decC b l = (b.toNat, 1) := by
 unfold decC decV
 rw [if_pos h]
theorem ck_ascii (b : UInt8) (r : List UInt8) (h : b.toNat < 128) : ckL (b :: r) = if xmlB b.toNat = true then (1 + (ckL r).1, (ckL r).2) else (0, 15) := by
 rw [ckL_cons, decC_ascii b _ h, if_neg (by simp; omega)]
 rfl
theorem ck_asciis : ∀ (p q : List UInt8), (∀ b ∈ p, b.toNat < 128 ∧ xmlB b.toNat = true) → (ckL (p ++ q)).2 = (ckL q).2
 | [], q, _ => rfl
 | b :: p, q, h => by
  rw [List.cons_append, ck_ascii b _ (h b (by simp)).1, if_pos (h b (by simp)).2]
  exact ck_asciis p q fun x hx => h x (List.mem_cons_of_mem _ hx)
theorem esc_special (b : UInt8) (h : escByte b ≠ [b]) : (∀ c ∈ escByte b, c.toNat < 128 ∧ xmlB c.toNat = true) ∧ b.toNat < 128 ∧ xmlB b.toNat = true := by
 have hr : (repOf b).isSome = true := by
  cases hr : repOf b with
  | none => rw [escByte_rep, hr] at h; exact absurd rfl h
  | some n => rfl
 have hm := rep_keys8 b hr
 clear h hr
 revert b
 decide
theorem esc_high (b : UInt8) (h : 128 ≤ b.toNat) : escByte b = [b] := by
 by_cases he : escByte b = [b]
 ·
  exact he
 ·
  have := (esc_special b he).2.1
  omega
theorem tw_esc : ∀ r : List UInt8, (escL r).takeWhile isC = r.takeWhile isC
 | [] => rfl
 | b :: r => by
  rw [escL_cons, List.takeWhile_cons]
  by_cases hb : isC b = true
  ·
   have h128 : 128 ≤ b.toNat := by
    unfold isC at hb
    simp at hb
    omega
   rw [esc_high b h128, List.singleton_append, List.takeWhile_cons, if_pos hb, if_pos hb, tw_esc r]
  ·
   rw [if_neg hb]
   by_cases he : escByte b = [b]
   ·
    rw [he, List.singleton_append, List.takeWhile_cons, if_neg hb]
   ·
    cases hq : escByte b with
    | nil => have := escByte_len b; rw [hq] at this; simp at this
    | cons c q =>
     have hc := (esc_special b he).1 c (by rw [hq]; simp)
     rw [List.cons_append, List.takeWhile_cons, if_neg (by unfold isC; simp; omega)]
theorem esc_drop : ∀ (k : Nat) (r : List UInt8), k ≤ (r.takeWhile isC).length → (escL r).drop k = escL (r.drop k)
 | 0, r, _ => rfl
 | k + 1, [], h => by simp at h
 | k + 1, b :: r, h => by
  rw [List.takeWhile_cons] at h
  by_cases hb : isC b = true
  ·
   rw [if_pos hb] at h
   have h128 : 128 ≤ b.toNat := by
    unfold isC at hb
    simp at hb
    omega
   rw [escL_cons, esc_high b h128, List.singleton_append, List.drop_succ_cons, List.drop_succ_cons]
   exact esc_drop k r (by simp at h; omega)
  ·
   rw [if_neg hb] at h
   simp at h
theorem ck_esc : ∀ (n : Nat) (l : List UInt8), l.length ≤ n → (ckL (escL l)).2 = (ckL l).2
 | _, [], _ => rfl
 | 0, b :: r, h => by simp at h
 | n + 1, b :: r, h => by
  simp only [List.length_cons] at h
  rw [escL_cons]
  by_cases he : escByte b = [b]
  ·
   rw [he, List.singleton_append, ckL_cons, ckL_cons, tw_esc]
   have hlen := decC_len b (r.takeWhile isC)
   rw [esc_drop _ _ (show (decC b (r.takeWhile isC)).2 - 1 ≤ (r.takeWhile isC).length by omega)]
   have ih := ck_esc n (r.drop ((decC b (r.takeWhile isC)).2 - 1)) (by simp; omega)
   split
   ·
    rfl
   ·
    split
    ·
     exact ih
    ·
     rfl
  ·
   obtain ⟨h1, h2, h3⟩ := esc_special b he
   rw [ck_asciis _ _ h1, ck_ascii b r h2, if_pos h3]
   exact ck_esc n r (by omega)
end Go.Proofs.YtknfpggiigncpaaGreatDoor.P
end
section
namespace Go.Proofs.YtknfpggiigncpaaGreatDoor.E
open Go.RowKit P
def letB (c : UInt8) : Bool := (decide (97 ≤ c.toNat) && decide (c.toNat ≤ 122)) || (decide (65 ≤ c.toNat) && decide (c.toNat ≤ 90)) || c.toNat == 95
def insB (c : UInt8) : Bool := letB c || (decide (48 ≤ c.toNat) && decide (c.toNat ≤ 57)) || c.toNat == 45 || c.toNat == 46
def nameB : List UInt8 → Bool
 | [] => false
 | b :: r => letB b && r.all insB && decide (r.length ≤ 99)
def goodB (l : List UInt8) : Bool := decide ((ckL l).2 = 0)
def attrB (v : S24) : Bool := match v.f0.data.toList with | [] => false | b :: _ => b == 64
def atL (v : S24) : List UInt8 := v.f0.data.toList.drop 1
def attrOk (prev : List S24) (a : S24) : Bool :=
 nameB (atL a) && !(a.f0.data.toList == [64, 120, 109, 108, 110, 115]) && goodB a.f1.data.toList && a.f2.isEmpty && !(prev.any fun b => b.f0.data.toList == a.f0.data.toList)
def attrsOk (prev : List S24) : List S24 → Bool
 | [] => true
 | a :: l => attrOk prev a && attrsOk (prev ++ [a]) l
def attN (l : List S24) : Nat := (l.takeWhile attrB).length
def oneT (v : S24) : Bool :=
 nameB v.f0.data.toList && goodB v.f1.data.toList && decide (attN v.f2 ≤ 19) && !(decide (attN v.f2 < v.f2.length) && !v.f1.data.toList.isEmpty)
  && !((v.f2.drop (attN v.f2)).any attrB) && attrsOk [] (v.f2.take (attN v.f2))
def allN : Nat → S24 → Bool
 | 0, p => attrB p
 | e + 1, p => (attrB p || oneT p) && p.f2.all (allN e)
def mayP (v : S24) : Bool := !attrB v && allN 64 v
where
 kids (sh : S24 → Bool) (noText : Bool) : List S24 → Nat → Bool → List S24 → Bool
  | _, _, el, [] => !el || noText
  | prev, n, el, k :: l =>
   if attrB k then !el && decide (n + 1 ≤ 19) && nameB (atL k) && !(k.f0.data.toList == [64, 120, 109, 108, 110, 115]) && goodB k.f1.data.toList && k.f2.isEmpty && !(prev.any fun b => b.f0.data.toList == k.f0.data.toList) && kids sh noText (prev ++ [k]) (n + 1) el l
   else sh k && kids sh noText (prev ++ [k]) n true l
theorem take_att (l : List S24) : l.take (attN l) = l.takeWhile attrB := by
 unfold attN
 induction l with
 | nil => rfl
 | cons k l ih =>
  by_cases h : attrB k = true
  ·
   rw [List.takeWhile_cons_of_pos h, List.length_cons, List.take_succ_cons, ih]
  ·
   rw [List.takeWhile_cons_of_neg h]; rfl
theorem drop_att (l : List S24) : l.drop (attN l) = l.dropWhile attrB := by
 unfold attN
 induction l with
 | nil => rfl
 | cons k l ih =>
  by_cases h : attrB k = true
  ·
   rw [List.takeWhile_cons_of_pos h, List.length_cons, List.drop_succ_cons, ih, List.dropWhile_cons_of_pos h]
  ·
   rw [List.takeWhile_cons_of_neg h, List.dropWhile_cons_of_neg h]; rfl
theorem tw_all (l : List S24) : ∀ a ∈ l.takeWhile attrB, attrB a = true := by
 intro a ha
 induction l with
 | nil => cases ha
 | cons k l ih =>
  by_cases h : attrB k = true
  ·
   rw [List.takeWhile_cons_of_pos h] at ha
   rcases List.mem_cons.1 ha with rfl | ha
   ·
    exact h
   ·
    exact ih ha
  ·
   rw [List.takeWhile_cons_of_neg h] at ha
   cases ha
end Go.Proofs.YtknfpggiigncpaaGreatDoor.E
end
