/- A text's tokens are the same ahead of another text that begins with <, and behind one: plain. -/
import Derived.Test.YtknfpggiigncpaaGreatDoorXTok10
import Derived.Test.YtknfpggiigncpaaGreatDoorCkLaw
set_option linter.unusedVariables false
set_option linter.unusedSimpArgs false
namespace Go.Proofs.YtknfpggiigncpaaGreatDoor.C
open Go.RowKit Go.Proofs.YtknfpggiigncpaaGreatDoor.P Go.Proofs.YtknfpggiigncpaaGreatDoorW.PrintWords

/-- What may stand behind: nothing, or a text that begins with <. -/
def LtX (x : List UInt8) : Prop := x = [] ∨ ∃ y, x = 60 :: y
theorem hp_app : ∀ (t l x : List UInt8), LtX x → (∀ c ∈ t, c ≠ 60) → Lib.hasPrefix (l ++ x) t = Lib.hasPrefix l t
  | [], l, x, _, _ => by simp [Lib.hasPrefix]
  | c :: t, [], x, hx, ht => by
    have hc := ht c (by simp)
    rcases hx with rfl | ⟨y, rfl⟩
    · rfl
    · simp [Lib.hasPrefix, List.isPrefixOf, hc]
  | c :: t, b :: l, x, hx, ht => by
    have ih := hp_app t l x hx (fun d hd => ht d (List.mem_cons_of_mem _ hd))
    unfold Lib.hasPrefix at ih ⊢
    rw [List.cons_append]
    simp only [List.isPrefixOf, ih]
theorem hp_app1 (t : List UInt8) (b : UInt8) (l x : List UInt8) (hx : LtX x) (ht : ∀ c ∈ t, c ≠ 60) : Lib.hasPrefix (b :: l ++ x) (60 :: t) = Lib.hasPrefix (b :: l) (60 :: t) := by
  have ih := hp_app t l x hx ht
  unfold Lib.hasPrefix at ih ⊢
  rw [List.cons_append]
  simp only [List.isPrefixOf, ih]
theorem index_app (l x t : List UInt8) (hx : LtX x) (ht : ∀ c ∈ t, c ≠ 60) (h : 0 ≤ Lib.index l t) : Lib.index (l ++ x) t = Lib.index l t := by
  rcases Lib.index_spec l t with ⟨h1, _⟩ | ⟨i, h1, h2, h3, h4⟩
  · omega
  · rw [h1]
    refine Lib.index_first (by rw [List.length_append]; omega) ?_ ?_
    · unfold Lib.occAt at h3 ⊢
      rw [List.drop_append_of_le_length h2]
      exact (hp_app t _ x hx ht).trans h3
    · intro j hj
      have := h4 j hj
      unfold Lib.occAt at this ⊢
      rw [List.drop_append_of_le_length (by omega)]
      exact (hp_app t _ x hx ht).trans this
theorem cut_app (l x t : List UInt8) (hx : LtX x) (ht : ∀ c ∈ t, c ≠ 60) (h : (Lib.cut l t).2.2 = true) : (Lib.cut (l ++ x) t).2.2 = true ∧ (Lib.cut (l ++ x) t).1 = (Lib.cut l t).1 := by
  unfold Lib.cut at h ⊢
  by_cases h0 : 0 ≤ Lib.index l t
  · have hr := Lib.index_room l t h0
    rw [index_app l x t hx ht h0, if_pos h0, if_pos h0]
    refine ⟨rfl, ?_⟩
    exact List.take_append_of_le_length (by omega)
  · rw [if_neg h0] at h
    cases h
theorem ib_app : ∀ (l x : List UInt8), LtX x → (Lib.cut (l ++ x) [60]).1 = (Lib.cut l [60]).1
  | [], x, hx => by
    rcases hx with rfl | ⟨y, rfl⟩
    · rfl
    · have : Lib.index ([] ++ 60 :: y) [60] = 0 := by simp [Lib.index, List.isPrefixOf]
      unfold Lib.cut
      rw [this]
      rfl
  | b :: l, x, hx => by
    have ih := ib_app l x hx
    have key : ∀ (b : UInt8) (m : List UInt8), (Lib.cut (b :: m) [60]).1 = if b = 60 then [] else b :: (Lib.cut m [60]).1 := by
      intro b m
      unfold Lib.cut
      rw [Lib.index]
      have hge := Lib.index_ge m [60]
      by_cases hb : b = 60
      · subst hb
        simp [List.isPrefixOf]
      · have hb' : ([60] : List UInt8).isPrefixOf (b :: m) = false := by
          have : ¬ (60 : UInt8) = b := fun e => hb e.symm
          simp [List.isPrefixOf, this]
        rw [if_neg hb, hb']
        simp only [Bool.false_eq_true, if_false]
        by_cases hi : Lib.index m [60] = -1
        · rw [hi]
          simp
        · rw [beq_eq_false_iff_ne.2 hi]
          simp only [Bool.false_eq_true, if_false]
          rw [if_pos (by omega), if_pos (by omega)]
          simp only
          rw [show (Lib.index m [60] + 1).toNat = (Lib.index m [60]).toNat + 1 by omega, List.take_succ_cons]
    rw [List.cons_append, key, key, ih]
theorem tw_app (f : UInt8 → Bool) (hf : f 60 = false) : ∀ (l x : List UInt8), LtX x → (l ++ x).takeWhile f = l.takeWhile f
  | [], x, hx => by
    rcases hx with rfl | ⟨y, rfl⟩
    · rfl
    · simp [hf]
  | b :: l, x, hx => by
    have ih := tw_app f hf l x hx
    rw [List.cons_append, List.takeWhile_cons, List.takeWhile_cons, ih]
theorem blank_app (l x : List UInt8) (hx : LtX x) : blankN (l ++ x) = blankN l := by
  unfold blankN
  rw [tw_app blankB rfl l x hx]
theorem nm_app (l x : List UInt8) (hx : LtX x) : nmLen (l ++ x) = nmLen l := by
  cases l with
  | nil =>
    rcases hx with rfl | ⟨y, rfl⟩
    · rfl
    · rfl
  | cons b l =>
    rw [List.cons_append]
    simp only [nmLen]
    rw [tw_app isNm rfl l x hx]
theorem head_app (l x : List UInt8) (hx : LtX x) : headLet (l ++ x) = headLet l := by
  cases l with
  | nil =>
    rcases hx with rfl | ⟨y, rfl⟩
    · rfl
    · rfl
  | cons b l => rfl

/-- A place in a text, and one in another one from which it goes on alike. -/
structure Sim (s : ByteArray) (p : Nat) (S : ByteArray) (P : Nat) (x : List UInt8) : Prop where
  lt : LtX x
  le : p ≤ s.size
  eq : rs S P = rs s p ++ x
  big : P ≤ S.size
theorem Sim.len {s S : ByteArray} {p P : Nat} {x : List UInt8} (h : Sim s p S P x) : S.size - P = s.size - p + x.length := by
  have := congrArg List.length h.eq
  rw [List.length_append, rs_len, rs_len] at this
  exact this
theorem Sim.step {s S : ByteArray} {p P : Nat} {x : List UInt8} (h : Sim s p S P x) (k : Nat) (hk : p + k ≤ s.size) : Sim s (p + k) S (P + k) x := by
  have hl := h.len
  have hb := h.big
  have hp := h.le
  refine ⟨h.lt, hk, ?_, by omega⟩
  have h1 : rs S (P + k) = (rs S P).drop k := by unfold rs; rw [List.drop_drop]
  have h2 : rs s (p + k) = (rs s p).drop k := by unfold rs; rw [List.drop_drop]
  rw [h1, h2, h.eq, List.drop_append_of_le_length (by rw [rs_len]; omega)]
section
variable {s S : ByteArray} {p P : Nat} {x : List UInt8}
theorem sim_must (h : Sim s p S P x) {t : List UInt8} {q : Nat} (ht : ∀ c ∈ t, c ≠ 60) (hr : mustT s p t = .ok q) : q = p + t.length ∧ p + t.length ≤ s.size ∧ mustT S P t = .ok (P + t.length) := by
  unfold mustT at hr ⊢
  rw [h.eq, hp_app t _ x h.lt ht]
  split at hr
  · rename_i h1
    rw [if_pos h1]
    have := Lib.hasPrefix_le h1
    rw [rs_len] at this
    have := h.le
    injection hr with hr
    exact ⟨hr.symm, by omega, rfl⟩
  · cases hr
theorem sim_until (h : Sim s p S P x) {t a : List UInt8} {q : Nat} (ht : ∀ c ∈ t, c ≠ 60) (hr : untilT s p t = .ok (a, q)) : ∃ k, q = p + k ∧ p + k ≤ s.size ∧ t.length ≤ k ∧ untilT S P t = .ok (a, P + k) := by
  have hle := untilT_le hr h.le
  unfold untilT at hr ⊢
  rw [h.eq]
  split at hr
  · rename_i h1
    obtain ⟨h2, h3⟩ := cut_app (rs s p) x t h.lt ht h1
    injection hr with hr
    injection hr with ha hq
    rw [if_pos h2, h3, ha]
    rw [ha] at hq
    exact ⟨a.length + t.length, hq.symm, by omega, by omega, rfl⟩
  · cases hr
theorem sim_name (h : Sim s p S P x) {a : List UInt8} {q : Nat} (hr : nameT s p = .ok (a, q)) : ∃ k, q = p + k ∧ p + k ≤ s.size ∧ 0 < k ∧ nameT S P = .ok (a, P + k) := by
  have hle := nameT_le hr h.le
  have hn := nmLen_le (rs s p)
  unfold nameT at hr ⊢
  rw [h.eq, nm_app _ _ h.lt]
  split at hr
  · cases hr
  · rename_i h1
    injection hr with hr
    injection hr with ha hq
    rw [if_neg h1, List.take_append_of_le_length hn, ha]
    exact ⟨nmLen (rs s p), hq.symm, by omega, by omega, rfl⟩
theorem sim_p3 (h : Sim s p S P x) : ∃ k, p3T s p = p + k ∧ p + k ≤ s.size ∧ p3T S P = P + k ∧ k = blankN (rs s p) ∧ k = blankN (rs S P) := by
  have hb := blankN_le (rs s p)
  rw [rs_len] at hb
  have := h.le
  exact ⟨blankN (rs s p), rfl, by omega, by unfold p3T; rw [h.eq, blank_app _ _ h.lt], rfl, by rw [h.eq, blank_app _ _ h.lt]⟩
theorem plain_any_at {l y : List UInt8} {b : Nat} (b' : Nat) (h : plainT l b = .ok y) : plainT l b' = .ok y := by
  unfold plainT at h ⊢
  split at h
  · rename_i h1
    rw [if_pos h1]
    exact h
  · cases h
theorem quote_take {l : List UInt8} (h : ¬ badQ (l.take 1)) : ∃ b r, l = b :: r ∧ (b = 39 ∨ b = 34) ∧ l.take 1 = [b] := by
  cases l with
  | nil => exact absurd (show badQ [] from ⟨by simp, by simp⟩) h
  | cons b r =>
    refine ⟨b, r, rfl, ?_, rfl⟩
    by_cases h1 : b = 39
    · exact .inl h1
    · by_cases h2 : b = 34
      · exact .inr h2
      · exact absurd (show badQ [b] from ⟨by simpa using h1, by simpa using h2⟩) h
theorem sim_attr1 (h : Sim s p S P x) {acc : List S77} {a : S77} {q : Nat} (hr : attr1T s p acc = .ok (a, q)) : ∃ k, q = p + k ∧ p + k ≤ s.size ∧ 0 < k ∧ attr1T S P acc = .ok (a, P + k) := by
  unfold attr1T at hr
  cases h1 : nameT s p with
  | error z => rw [h1] at hr; cases hr
  | ok y =>
    obtain ⟨nm, p2⟩ := y
    rw [h1] at hr
    simp only at hr
    obtain ⟨k1, rfl, l1, g1, H1⟩ := sim_name h h1
    have hS1 := h.step k1 l1
    obtain ⟨k2, e2, l2, E2, _, _⟩ := sim_p3 hS1
    have hS2 := hS1.step k2 l2
    cases h2 : mustT s (p3T s (p + k1)) [61] with
    | error z => rw [h2] at hr; cases hr
    | ok p4 =>
      rw [h2] at hr
      simp only at hr
      have h2' := h2
      rw [e2] at h2'
      obtain ⟨rfl, l3, H2⟩ := sim_must hS2 (by simp) h2'
      have hS3 := hS2.step 1 l3
      obtain ⟨k4, e4, l4, E4, _, _⟩ := sim_p3 hS3
      have hS4 := hS3.step k4 l4
      simp only [List.length_cons, List.length_nil, Nat.zero_add] at hr H2
      rw [e4] at hr
      split at hr
      · cases hr
      · rename_i hq
        obtain ⟨b, r, hb, hb1, hb2⟩ := quote_take hq
        have hb3 : (rs S (P + k1 + k2 + 1 + k4)).take 1 = [b] := by rw [hS4.eq, hb]; rfl
        rw [hb2] at hr
        have hlen := congrArg List.length hb
        rw [rs_len, List.length_cons] at hlen
        have hS5 := hS4.step 1 (by omega)
        cases h5 : untilT s (p + k1 + k2 + 1 + k4 + 1) [b] with
        | error z => rw [h5] at hr; cases hr
        | ok y =>
          obtain ⟨v, p7⟩ := y
          rw [h5] at hr
          simp only at hr
          obtain ⟨k5, rfl, l5, g5, H5⟩ := sim_until hS5 (by intro c hc; rw [List.mem_singleton] at hc; subst hc; rcases hb1 with rfl | rfl <;> decide) h5
          split at hr
          · cases hr
          · rename_i hv
            cases h6 : plainT v (p + k1 + k2 + 1 + k4 + 1) with
            | error z => rw [h6] at hr; cases hr
            | ok y =>
              rw [h6] at hr
              simp only at hr
              injection hr with hr
              injection hr with ha hp7
              refine ⟨k1 + k2 + 1 + k4 + 1 + k5, by omega, by omega, by omega, ?_⟩
              have hm : mustT S (p3T S (P + k1)) [61] = .ok (P + k1 + k2 + 1) := by rw [E2]; exact H2
              have E4' : p3T S (P + k1 + k2 + 1) = P + k1 + k2 + 1 + k4 := E4
              have hq' : ¬ badQ ((rs S (p3T S (P + k1 + k2 + 1))).take 1) := by
                rw [E4', hb3]
                rw [hb2] at hq
                exact hq
              have hu : untilT S (p3T S (P + k1 + k2 + 1) + 1) ((rs S (p3T S (P + k1 + k2 + 1))).take 1) = .ok (v, P + k1 + k2 + 1 + k4 + 1 + k5) := by rw [E4', hb3]; exact H5
              have := a_ok (acc := acc) H1 hm hq' hu (by simpa using hv) (plain_any_at _ h6)
              rw [this, ← ha]
              congr 2
              omega
theorem sim_attrs : ∀ (f f' : Nat) {p P : Nat} {acc l : List S77} {q : Nat}, Sim s p S P x → s.size < p + f → S.size < P + f' → attrsT s f p acc = .ok (l, q) → ∃ k, q = p + k ∧ p + k ≤ s.size ∧ attrsT S f' P acc = .ok (l, P + k)
  | 0, f', p, P, acc, l, q, h, hf, hf', hr => absurd h.le (by omega)
  | f + 1, 0, p, P, acc, l, q, h, hf, hf', hr => absurd h.big (by omega)
  | f + 1, f' + 1, p, P, acc, l, q, h, hf, hf', hr => by
    obtain ⟨k1, e1, l1, E1, b1, B1⟩ := sim_p3 h
    have hS1 := h.step k1 l1
    simp only [attrsT] at hr ⊢
    rw [← B1, E1]
    rw [← b1, e1] at hr
    have hh : headLet (rs S (P + k1)) = headLet (rs s (p + k1)) := by rw [hS1.eq, head_app _ _ h.lt]
    rw [hh]
    split at hr
    · rename_i hc
      rw [if_pos hc]
      cases h2 : attr1T s (p + k1) acc with
      | error z => rw [h2] at hr; cases hr
      | ok y =>
        obtain ⟨a, p7⟩ := y
        rw [h2] at hr
        simp only at hr
        obtain ⟨k2, rfl, l2, g2, H2⟩ := sim_attr1 hS1 h2
        obtain ⟨k3, rfl, l3, H3⟩ := sim_attrs f f' (hS1.step k2 l2) (by omega) (by omega) hr
        rw [H2]
        exact ⟨k1 + k2 + k3, by omega, by omega, by simp only; rw [H3]; congr 2; omega⟩
    · rename_i hc
      rw [if_neg hc]
      injection hr with hr
      injection hr with h1 h2
      subst h1
      subst h2
      exact ⟨k1, rfl, l1, rfl⟩
end
/-- A token at another place. -/
def shT (P : Nat) (t : S44) : S44 := ⟨t.f0, t.f1, t.f2, t.f3, t.f4, (P : Int)⟩
theorem put_new (xs : List S44) (t : S44) : ∃ new : List S44, (new = [] ∨ new = [t]) ∧ (∀ ys, putT ys t = ys ++ new) ∧ ∀ P ys, putT ys (shT P t) = ys ++ new.map (shT P) := by
  by_cases h : t.f0 = 3 ∧ t.f2.data.toList = []
  · exact ⟨[], .inl rfl, fun ys => by unfold putT; rw [if_pos h]; simp, fun P ys => by unfold putT shT; rw [if_pos h]; simp⟩
  · exact ⟨[t], .inr rfl, fun ys => by unfold putT; rw [if_neg h], fun P ys => by unfold putT; rw [if_neg (show ¬ ((shT P t).f0 = 3 ∧ (shT P t).f2.data.toList = []) from h)]; rfl⟩
/-- What one step gives: a token at most, at the step's place. -/
def Step1 (s : ByteArray) (p : Nat) (S : ByteArray) (P : Nat) (xs : List S44) (q : Nat) (ys : List S44) : Prop :=
  ∃ (k : Nat) (new : List S44), q = p + k ∧ p + k ≤ s.size ∧ 0 < k ∧ (∀ t ∈ new, t.f5 = (p : Int)) ∧ new.length ≤ 1 ∧ ys = xs ++ new ∧ ∀ zs, tk1T S P zs = .ok (P + k, zs ++ new.map (shT P))
theorem step_put {s S : ByteArray} {p P : Nat} {xs ys : List S44} {q k : Nat} {t : S44} (hq : q = p + k) (hk : p + k ≤ s.size) (h0 : 0 < k) (ht : t.f5 = (p : Int)) (hys : putT xs t = ys) (hS : ∀ zs, tk1T S P zs = .ok (P + k, putT zs (shT P t))) : Step1 s p S P xs q ys := by
  obtain ⟨new, h1, h2, h3⟩ := put_new xs t
  refine ⟨k, new, hq, hk, h0, ?_, ?_, hys ▸ h2 xs, fun zs => by rw [hS, h3]⟩
  · intro u hu
    rcases h1 with rfl | rfl
    · cases hu
    · rw [List.mem_singleton] at hu
      rw [hu, ht]
  · rcases h1 with rfl | rfl <;> simp
theorem formI_app (b : UInt8) (l x : List UInt8) (hx : LtX x) : formI (b :: l ++ x) = formI (b :: l) := by
  unfold formI
  rw [hp_app1 [33, 45, 45] b l x hx (by decide), hp_app1 [33, 91, 67, 68, 65, 84, 65, 91] b l x hx (by decide), hp_app1 [47] b l x hx (by decide), hp_app1 [] b l x hx (by decide)]
theorem sim_tk1 {s S : ByteArray} {p P : Nat} {x : List UInt8} (h : Sim s p S P x) (hp : p < s.size) {xs ys : List S44} {q : Nat} (hr : tk1T s p xs = .ok (q, ys)) : Step1 s p S P xs q ys := by
  have hrl := rs_len s p
  have hfi := formI_le (rs s p)
  have hF : formI (rs S P) = formI (rs s p) := by
    rw [h.eq]
    cases hl : rs s p with
    | nil => rw [hl] at hrl; simp at hrl; omega
    | cons b l => exact formI_app b l x h.lt
  unfold tk1T at hr
  split at hr
  · rename_i hf
    have h4 := hfi.1 hf
    have hS := h.step 4 (by omega)
    have hT : ∀ zs, tk1T S P zs = form1R S (P + 4) zs := fun zs => by unfold tk1T; rw [hF, hf]; rfl
    unfold form1R form1T at hr
    cases hu : untilT s (p + 4) [45, 45, 62] with
    | error z => rw [hu] at hr; cases hr
    | ok y =>
      obtain ⟨a, q'⟩ := y
      obtain ⟨k, rfl, l1, g1, H1⟩ := sim_until hS (by decide) hu
      rw [hu] at hr
      simp only at hr
      split at hr
      · cases hr
      · rename_i hc
        injection hr with hr
        injection hr with h1 h2
        subst h1
        subst h2
        refine ⟨4 + k, [], by omega, by omega, by omega, by simp, by simp, by simp, fun zs => ?_⟩
        rw [hT]
        unfold form1R form1T
        rw [H1]
        simp only
        rw [if_neg hc, List.map_nil, List.append_nil, ← Nat.add_assoc]
        rfl
  · rename_i hf
    have h4 := hfi.2.1 hf
    have hS := h.step 9 (by omega)
    have hT : ∀ zs, tk1T S P zs = form2T S (P + 9) zs := fun zs => by unfold tk1T; rw [hF, hf]; rfl
    unfold form2T at hr
    cases hu : untilT s (p + 9) [93, 93, 62] with
    | error z => rw [hu] at hr; cases hr
    | ok y =>
      obtain ⟨a, q'⟩ := y
      obtain ⟨k, rfl, l1, g1, H1⟩ := sim_until hS (by decide) hu
      rw [hu] at hr
      simp only at hr
      injection hr with hr
      injection hr with h1 h2
      subst h1
      refine step_put (k := 9 + k) (by omega) (by omega) (by omega) ?_ h2 (fun zs => ?_)
      · show (((p + 9 - 9 : Nat)) : Int) = _
        rw [Nat.add_sub_cancel]
      · rw [hT]
        unfold form2T
        rw [H1]
        simp only [shT]
        rw [Nat.add_sub_cancel, ← Nat.add_assoc]
  · rename_i hf
    have h4 := hfi.2.2.1 hf
    have hS := h.step 2 (by omega)
    have hT : ∀ zs, tk1T S P zs = form3T S (P + 2) zs := fun zs => by unfold tk1T; rw [hF, hf]; rfl
    unfold form3T at hr
    cases hu : nameT s (p + 2) with
    | error z => rw [hu] at hr; cases hr
    | ok y =>
      obtain ⟨a, q'⟩ := y
      obtain ⟨k, rfl, l1, g1, H1⟩ := sim_name hS hu
      have hS2 := hS.step k l1
      obtain ⟨k2, e2, l2, E2, _, _⟩ := sim_p3 hS2
      have hS3 := hS2.step k2 l2
      rw [hu] at hr
      simp only at hr
      rw [show p + 2 + k + blankN (rs s (p + 2 + k)) = p + 2 + k + k2 from e2] at hr
      cases hm : mustT s (p + 2 + k + k2) [62] with
      | error z => rw [hm] at hr; cases hr
      | ok q2 =>
        obtain ⟨rfl, l3, H3⟩ := sim_must hS3 (by decide) hm
        rw [hm] at hr
        simp only at hr
        injection hr with hr
        injection hr with h1 h2
        subst h1
        simp only [List.length_cons, List.length_nil, Nat.zero_add] at l3 H3
        refine step_put (k := 2 + k + k2 + 1) (by simp; omega) (by omega) (by omega) ?_ h2 (fun zs => ?_)
        · show (((p + 2 - 2 : Nat)) : Int) = _
          rw [Nat.add_sub_cancel]
        · rw [hT]
          unfold form3T
          rw [H1]
          simp only
          rw [show P + 2 + k + blankN (rs S (P + 2 + k)) = P + 2 + k + k2 from E2, H3]
          simp only [shT]
          rw [Nat.add_sub_cancel, show P + (2 + k + k2 + 1) = P + 2 + k + k2 + 1 by omega]
  · rename_i n hn1 hn2 hn3 hf
    obtain rfl : n = 3 := by
      match n, hn1, hn2, hn3, hf with
      | 0, h, _, _, _ => exact absurd rfl h
      | 1, _, h, _, _ => exact absurd rfl h
      | 2, _, _, h, _ => exact absurd rfl h
      | 3, _, _, _, _ => rfl
      | m + 4, _, _, _, hf => exact (hfi.2.2.2.2 m hf).elim
    have h4 := hfi.2.2.2.1 hf
    have hS := h.step 1 (by omega)
    have hT : ∀ zs, tk1T S P zs = form4T S (P + 1) zs := fun zs => by unfold tk1T; rw [hF, hf]; rfl
    unfold form4T at hr
    cases hu : nameT s (p + 1) with
    | error z => rw [hu] at hr; cases hr
    | ok y =>
      obtain ⟨a, q'⟩ := y
      obtain ⟨k, rfl, l1, g1, H1⟩ := sim_name hS hu
      have hS2 := hS.step k l1
      rw [hu] at hr
      simp only at hr
      cases ha : attrsT s (s.size + 1 - (p + 1 + k)) (p + 1 + k) [] with
      | error z => rw [ha] at hr; cases hr
      | ok y =>
        obtain ⟨l, q2⟩ := y
        have hbS2 := hS2.big
        obtain ⟨k2, rfl, l2, H2⟩ := sim_attrs (s.size + 1 - (p + 1 + k)) (S.size + 1 - (P + 1 + k)) hS2 (by omega) (by omega) ha
        have hS3 := hS2.step k2 l2
        rw [ha] at hr
        simp only at hr
        have hsl : Lib.hasPrefix (rs S (P + 1 + k + k2)) [47, 62] = Lib.hasPrefix (rs s (p + 1 + k + k2)) [47, 62] := by rw [hS3.eq, hp_app _ _ _ h.lt (by decide)]
        obtain ⟨k3, e3, l3, E3⟩ : ∃ k3, selfN s (p + 1 + k + k2) = p + 1 + k + k2 + k3 ∧ p + 1 + k + k2 + k3 ≤ s.size ∧ selfN S (P + 1 + k + k2) = P + 1 + k + k2 + k3 := by
          unfold selfN
          rw [hsl]
          by_cases hb : Lib.hasPrefix (rs s (p + 1 + k + k2)) [47, 62] = true
          · have hlen := Lib.hasPrefix_le hb
            rw [rs_len] at hlen
            simp at hlen
            rw [if_pos hb, if_pos hb]
            exact ⟨1, rfl, by omega, rfl⟩
          · rw [if_neg hb, if_neg hb]
            exact ⟨0, rfl, l2, rfl⟩
        have hS4 := hS3.step k3 l3
        rw [e3] at hr
        cases hm : mustT s (p + 1 + k + k2 + k3) [62] with
        | error z => rw [hm] at hr; cases hr
        | ok q4 =>
          obtain ⟨rfl, l4, H4⟩ := sim_must hS4 (by decide) hm
          rw [hm] at hr
          simp only at hr
          injection hr with hr
          injection hr with h1 h2
          subst h1
          simp only [List.length_cons, List.length_nil, Nat.zero_add] at l4 H4
          refine step_put (k := 1 + k + k2 + k3 + 1) (by simp; omega) (by omega) (by omega) ?_ h2 (fun zs => ?_)
          · show (((p + 1 - 1 : Nat)) : Int) = _
            rw [Nat.add_sub_cancel]
          · rw [hT]
            unfold form4T
            rw [H1]
            simp only
            rw [H2]
            simp only
            rw [E3, H4]
            simp only [shT]
            rw [Nat.add_sub_cancel, hsl, show P + (1 + k + k2 + k3 + 1) = P + 1 + k + k2 + k3 + 1 by omega]
  · rename_i hf
    have hT : ∀ zs, tk1T S P zs = textTk S P zs := fun zs => by unfold tk1T; rw [hF, hf]
    have hcl := cut_le (rs s p) [60]
    have hcp : 1 ≤ (Lib.cut (rs s p) [60]).1.length := by
      cases hl : rs s p with
      | nil => rw [hl] at hrl; simp at hrl; omega
      | cons b l =>
        refine cut_pos b l ?_
        rw [hl] at hf
        unfold formI at hf
        cases hb : Lib.hasPrefix (b :: l) [60] with
        | false => rfl
        | true =>
          rw [hb] at hf
          repeat' split at hf
          all_goals simp_all
    have hce := ib_app (rs s p) x h.lt
    unfold textTk at hr
    cases hpl : plainT (Lib.cut (rs s p) [60]).1 p with
    | error z => rw [hpl] at hr; cases hr
    | ok y =>
      rw [hpl] at hr
      simp only at hr
      injection hr with hr
      injection hr with h1 h2
      subst h1
      refine step_put (k := (Lib.cut (rs s p) [60]).1.length) rfl (by omega) (by omega) rfl h2 (fun zs => ?_)
      rw [hT]
      unfold textTk
      rw [h.eq, hce, plain_any_at P hpl]
      rfl
/-- Tokens at places from one on, one behind the other, below another one. -/
def Row : Int → Int → List S44 → Prop
  | lo, hi, [] => lo ≤ hi
  | lo, hi, t :: l => lo ≤ t.f5 ∧ Row (t.f5 + 1) hi l
theorem row_mono : ∀ (l : List S44) (lo lo' hi hi' : Int), lo' ≤ lo → hi ≤ hi' → Row lo hi l → Row lo' hi' l
  | [], lo, lo', hi, hi', h, h', hr => by
    have : lo ≤ hi := hr
    show lo' ≤ hi'
    omega
  | t :: l, lo, lo', hi, hi', h, h', hr => ⟨by have := hr.1; omega, row_mono l _ _ hi hi' (Int.le_refl _) h' hr.2⟩
theorem row_app : ∀ (l m : List S44) (lo mid hi : Int), Row lo mid l → Row mid hi m → Row lo hi (l ++ m)
  | [], m, lo, mid, hi, h1, h2 => row_mono m _ _ _ _ h1 (Int.le_refl _) h2
  | t :: l, m, lo, mid, hi, h1, h2 => ⟨h1.1, row_app l m _ mid hi h1.2 h2⟩
theorem row_new (new : List S44) (p q : Int) (h : p < q) (hl : new.length ≤ 1) (ht : ∀ t ∈ new, t.f5 = p) : Row p q new := by
  match new, hl, ht with
  | [], _, _ => show p ≤ q; omega
  | [t], _, ht =>
    have := ht t (by simp)
    exact ⟨by omega, by show t.f5 + 1 ≤ q; omega⟩
/-- The tokens of a text, in another one: the same ones, moved; the walk goes on behind them. -/
theorem sim_tk {s S : ByteArray} {x : List UInt8} : ∀ (f : Nat) {p P : Nat} {xs ys : List S44}, Sim s p S P x → s.size < p + f → tkT s f p xs = .ok ys →
    ∃ (n : Nat) (new : List S44), n + p ≤ s.size ∧ ys = xs ++ new ∧ Row (p : Int) (s.size : Int) new ∧ ∀ (k : Nat) (zs : List S44), tkT S (n + k) P zs = tkT S k (P + (s.size - p)) (zs ++ new.map fun t => shT (P + (t.f5.toNat - p)) t)
  | 0, p, P, xs, ys, h, hf, hr => absurd h.le (by omega)
  | f + 1, p, P, xs, ys, h, hf, hr => by
    simp only [tkT] at hr
    split at hr
    · rename_i hp
      cases h1 : tk1T s p xs with
      | error z => rw [h1] at hr; cases hr
      | ok y =>
        obtain ⟨q, ys1⟩ := y
        rw [h1] at hr
        simp only at hr
        obtain ⟨k, new, rfl, l1, g1, ht, hn, rfl, hT⟩ := sim_tk1 h hp h1
        obtain ⟨n, new2, l2, rfl, hR, hT2⟩ := sim_tk f (h.step k l1) (by omega) hr
        have hrn := row_new new (p : Int) ((p + k : Nat) : Int) (by omega) hn ht
        refine ⟨n + 1, new ++ new2, by omega, by rw [List.append_assoc], row_app _ _ _ _ _ hrn hR, fun k2 zs => ?_⟩
        have hP : P < S.size := by
          have := h.len
          omega
        rw [show n + 1 + k2 = (n + k2) + 1 by omega]
        simp only [tkT]
        rw [if_pos hP, hT]
        simp only
        rw [hT2, List.append_assoc, List.map_append]
        have e1 : new.map (shT P) = new.map fun t => shT (P + (t.f5.toNat - p)) t := by
          refine List.map_congr_left fun t htm => ?_
          rw [ht t htm]
          simp
        have e2 : (new2.map fun t => shT (P + k + (t.f5.toNat - (p + k))) t) = new2.map fun t => shT (P + (t.f5.toNat - p)) t := by
          refine List.map_congr_left fun t htm => ?_
          have : (p + k : Nat) ≤ t.f5 := by
            clear hT2 e1
            have key : ∀ (l : List S44) (lo hi : Int), Row lo hi l → ∀ t ∈ l, lo ≤ t.f5 := by
              intro l
              induction l with
              | nil => intro lo hi _ t ht; cases ht
              | cons u l ih =>
                intro lo hi hr t ht
                rcases List.mem_cons.1 ht with rfl | ht
                · exact hr.1
                · have := ih _ hi hr.2 t ht
                  have := hr.1
                  omega
            exact key new2 _ _ hR t htm
          congr 1
          omega
        rw [← e1, ← e2, show P + k + (s.size - (p + k)) = P + (s.size - p) by omega]
    · rename_i hp
      have hps : p = s.size := by have := h.le; omega
      injection hr with hr
      subst hr
      subst hps
      refine ⟨0, [], by omega, by simp, ?_, fun k zs => by simp⟩
      show ((s.size : Nat) : Int) ≤ _
      omega
end Go.Proofs.YtknfpggiigncpaaGreatDoor.C
