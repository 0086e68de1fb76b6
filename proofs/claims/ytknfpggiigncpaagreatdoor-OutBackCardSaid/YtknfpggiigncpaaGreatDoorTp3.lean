/- Tree, in plain Lean: how large a text's tokens are, and how large the builder grows. -/
import Derived.Test.YtknfpggiigncpaaGreatDoorRt8
set_option linter.unusedVariables false
set_option linter.unusedSimpArgs false
namespace Go.Proofs.YtknfpggiigncpaaGreatDoor.T
open Go.RowKit P E
open C in
theorem encode_le (n : Int) : (Lib.encodeRune n).length ≤ 4 := by
 unfold Lib.encodeRune Lib.encodeRuneZ
 rw [List.length_map]
 repeat' split
 all_goals simp
theorem un_ub : ∀ (n : Nat) (l : List UInt8) (pos : Nat) (out : List UInt8), l.length ≤ n → (un l pos out).2.2 = 0 → (un l pos out).1.length ≤ out.length + 4 * l.length
 | _, [], pos, out, _, _ => by simp [un_nil]
 | 0, b :: r, _, _, h, _ => by simp at h
 | n + 1, b :: r, pos, out, h, h0 => by
  simp only [List.length_cons] at h ⊢
  by_cases hb : b = 38
  ·
   subst hb
   cases hs : semi (r.take 13) with
   | none => rw [un_bad _ _ _ (by rw [hs]; rfl)] at h0; cases h0
   | some i =>
    cases hr : refV i with
    | none => rw [un_bad _ _ _ (by rw [hs]; exact hr)] at h0; cases h0
    | some c =>
     rw [un_ref _ _ _ _ _ hs hr] at h0 ⊢
     have := un_ub n (r.drop (i.length + 1)) (pos + i.length + 2) (out ++ Lib.encodeRune (c : Int)) (by simp; omega) h0
     have he := encode_le (c : Int)
     rw [List.length_append, List.length_drop] at this
     omega
  ·
   rw [un_plain _ _ _ _ hb] at h0 ⊢
   have := un_ub n r (pos + 1) (out ++ [b]) (by omega) h0
   rw [List.length_append, List.length_singleton] at this
   omega
theorem plain_ub {l x : List UInt8} {b : Nat} (h : C.plainT l b = .ok x) : x.length ≤ 4 * l.length := by
 unfold C.plainT at h
 split at h
 ·
  rename_i h0
  injection h with h
  subst h
  have := un_ub l.length l 0 [] (Nat.le_refl _) h0
  simpa using this
 ·
  cases h
structure TokOk (t : C.S44) : Prop where
 kind : t.f0 = 1 ∨ t.f0 = 2 ∨ t.f0 = 3
 name : t.f1.size ≤ 1048576
 text : t.f2.size ≤ 4194304
 many : t.f3.length ≤ 20
 atts : ∀ a ∈ t.f3, a.f0.size ≤ 1048576 ∧ a.f1.size ≤ 4194304
theorem attr1_ok {s : ByteArray} {q p7 : Nat} {acc : List C.S77} {a : C.S77} (hs : s.size ≤ 1048576) (hq : q ≤ s.size) (h : C.attr1T s q acc = .ok (a, p7)) : p7 ≤ s.size ∧ acc.length ≠ 20 ∧ a.f0.size ≤ 1048576 ∧ a.f1.size ≤ 4194304 := by
 unfold C.attr1T at h
 cases h1 : C.nameT s q with
 | error z => rw [h1] at h; cases h
 | ok y =>
  obtain ⟨nm, p2⟩ := y
  have l1 := C.nameT_le h1 hq
  rw [h1] at h
  simp only at h
  cases h2 : C.mustT s (C.p3T s p2) [61] with
  | error z => rw [h2] at h; cases h
  | ok p4 =>
   have lb : ∀ p, p ≤ s.size → C.p3T s p ≤ s.size := by
    intro p hp
    unfold C.p3T
    have := C.blankN_le (C.rs s p)
    rw [C.rs_len] at this
    omega
   have l2 := C.mustT_le h2 (lb _ l1.1)
   rw [h2] at h
   simp only at h
   split at h
   ·
    cases h
   ·
    rename_i hbq
    have hq1 : C.p3T s p4 + 1 ≤ s.size := by
     have := lb p4 l2.1
     by_cases hlt : C.p3T s p4 < s.size
     ·
      omega
     ·
      exfalso
      apply hbq
      have : C.rs s (C.p3T s p4) = [] := List.length_eq_zero_iff.1 (by rw [C.rs_len]; omega)
      rw [this]
      exact ⟨by simp, by simp⟩
    cases h3 : C.untilT s (C.p3T s p4 + 1) ((C.rs s (C.p3T s p4)).take 1) with
    | error z => rw [h3] at h; cases h
    | ok y =>
     obtain ⟨v, p7'⟩ := y
     have l3 := C.untilT_le h3 hq1
     rw [h3] at h
     simp only at h
     split at h
     ·
      cases h
     ·
      rename_i hbv
      cases h4 : C.plainT v (C.p3T s p4 + 1) with
      | error z => rw [h4] at h; cases h
      | ok x =>
       rw [h4] at h
       have := plain_ub h4
       injection h with h
       injection h with e1 e2
       subst e1 e2
       refine ⟨l3.1, ?_, ?_, ?_⟩
       ·
        intro e
        apply hbv
        unfold C.badV
        rw [e]
        simp
       ·
        show nm.length ≤ _
        omega
       ·
        show x.length ≤ _
        omega
theorem attrs_ok {s : ByteArray} (hs : s.size ≤ 1048576) : ∀ (f p : Nat) (acc l : List C.S77) (q : Nat), p ≤ s.size → acc.length ≤ 20 → (∀ a ∈ acc, a.f0.size ≤ 1048576 ∧ a.f1.size ≤ 4194304) → C.attrsT s f p acc = .ok (l, q) → l.length ≤ 20 ∧ ∀ a ∈ l, a.f0.size ≤ 1048576 ∧ a.f1.size ≤ 4194304
 | 0, p, acc, l, q, hp, hl, ha, h => by
  simp only [C.attrsT] at h
  injection h with h
  injection h with h1 h2
  subst h1
  exact ⟨hl, ha⟩
 | f + 1, p, acc, l, q, hp, hl, ha, h => by
  simp only [C.attrsT] at h
  split at h
  ·
   cases h1 : C.attr1T s (C.p3T s p) acc with
   | error z => rw [h1] at h; cases h
   | ok y =>
    obtain ⟨a, p7⟩ := y
    rw [h1] at h
    have lp : C.p3T s p ≤ s.size := by
     unfold C.p3T
     have := C.blankN_le (C.rs s p)
     rw [C.rs_len] at this
     omega
    obtain ⟨k1, k2, k3, k4⟩ := attr1_ok hs lp h1
    refine attrs_ok hs f p7 (acc ++ [a]) l q k1 (by rw [List.length_append, List.length_singleton]; omega) (fun b hb => ?_) h
    rcases List.mem_append.1 hb with hb | hb
    ·
     exact ha b hb
    ·
     rw [List.mem_singleton] at hb
     subst hb
     exact ⟨k3, k4⟩
  ·
   injection h with h
   injection h with h1 h2
   subst h1
   exact ⟨hl, ha⟩
theorem tk1_ok {s : ByteArray} (hs : s.size ≤ 1048576) {p q : Nat} {xs ys : List C.S44} (hp : p < s.size) (h : C.tk1T s p xs = .ok (q, ys)) : ∀ y ∈ ys, y ∈ xs ∨ TokOk y := by
 have hrl := C.rs_len s p
 have hfi := C.formI_le (C.rs s p)
 unfold C.tk1T at h
 split at h
 ·
  unfold C.form1R C.form1T at h
  cases hu : C.untilT s (p + 4) [45, 45, 62] with
  | error x => rw [hu] at h; cases h
  | ok x =>
   rw [hu] at h
   simp only at h
   split at h
   ·
    cases h
   ·
    injection h with h
    injection h with h1 h2
    subst h2
    exact fun y hy => .inl hy
 ·
  rename_i hI
  have h9 := hfi.2.1 hI
  unfold C.form2T at h
  cases hu : C.untilT s (p + 9) [93, 93, 62] with
  | error x => rw [hu] at h; cases h
  | ok x =>
   obtain ⟨a, q1⟩ := x
   have l1 := C.untilT_le hu (by omega)
   rw [hu] at h
   injection h with h
   injection h with h1 h2
   subst h2
   intro y hy
   rcases C.putT_mem hy with hy | rfl
   ·
    exact .inl hy
   ·
    exact .inr ⟨.inr (.inr rfl), Nat.zero_le _, by show a.length ≤ _; omega, Nat.zero_le _, fun a ha => by cases ha⟩
 ·
  rename_i hI
  have h2' := hfi.2.2.1 hI
  unfold C.form3T at h
  cases hu : C.nameT s (p + 2) with
  | error x => rw [hu] at h; cases h
  | ok x =>
   obtain ⟨a, q1⟩ := x
   have l1 := C.nameT_le hu (by omega)
   rw [hu] at h
   simp only at h
   cases hm : C.mustT s (q1 + C.blankN (C.rs s q1)) [62] with
   | error x => rw [hm] at h; cases h
   | ok q2 =>
    rw [hm] at h
    injection h with h
    injection h with h1 h2
    subst h2
    intro y hy
    rcases C.putT_mem hy with hy | rfl
    ·
     exact .inl hy
    ·
     exact .inr ⟨.inr (.inl rfl), by show a.length ≤ _; omega, Nat.zero_le _, Nat.zero_le _, fun a ha => by cases ha⟩
 ·
  unfold C.form4T at h
  cases hu : C.nameT s (p + 1) with
  | error x => rw [hu] at h; cases h
  | ok x =>
   obtain ⟨a, q1⟩ := x
   have l1 := C.nameT_le hu (by omega)
   rw [hu] at h
   simp only at h
   cases ha : C.attrsT s (s.size + 1 - q1) q1 [] with
   | error x => rw [ha] at h; cases h
   | ok x =>
    obtain ⟨l, q2⟩ := x
    have l2 := attrs_ok hs _ _ _ _ _ l1.1 (Nat.zero_le _) (fun a ha => by cases ha) ha
    rw [ha] at h
    simp only at h
    cases hm : C.mustT s (C.selfN s q2) [62] with
    | error x => rw [hm] at h; cases h
    | ok q4 =>
     rw [hm] at h
     injection h with h
     injection h with h1 h2
     subst h2
     intro y hy
     rcases C.putT_mem hy with hy | rfl
     ·
      exact .inl hy
     ·
      exact .inr ⟨.inl rfl, by show a.length ≤ _; omega, Nat.zero_le _, l2.1, l2.2⟩
 ·
  unfold C.textTk at h
  cases hu : C.plainT (Lib.cut (C.rs s p) [60]).1 p with
  | error x => rw [hu] at h; cases h
  | ok x =>
   have l1 := plain_ub hu
   have l2 : (Lib.cut (C.rs s p) [60]).1.length ≤ (C.rs s p).length := by
    unfold Lib.cut
    split
    ·
     simp; omega
    ·
     exact Nat.le_refl _
   rw [hu] at h
   injection h with h
   injection h with h1 h2
   subst h2
   intro y hy
   rcases C.putT_mem hy with hy | rfl
   ·
    exact .inl hy
   ·
    exact .inr ⟨.inr (.inr rfl), Nat.zero_le _, by show x.length ≤ _; omega, Nat.zero_le _, fun a ha => by cases ha⟩
theorem tk_ok {s : ByteArray} (hs : s.size ≤ 1048576) : ∀ (f p : Nat) (xs ys : List C.S44), p ≤ s.size → xs.length ≤ p → (∀ y ∈ xs, TokOk y) → C.tkT s f p xs = .ok ys → ys.length ≤ s.size ∧ ∀ y ∈ ys, TokOk y
 | 0, p, xs, ys, hp, hl, ha, h => by
  injection h with h
  subst h
  exact ⟨by omega, ha⟩
 | f + 1, p, xs, ys, hp, hl, ha, h => by
  simp only [C.tkT] at h
  split at h
  ·
   rename_i hps
   cases h1 : C.tk1T s p xs with
   | error z => rw [h1] at h; cases h
   | ok y =>
    obtain ⟨q, zs⟩ := y
    rw [h1] at h
    have hle := C.tk1_le hps h1
    have hat := tk1_ok hs hps h1
    exact tk_ok hs f q zs ys hle.2.1 (by omega) (fun y hy => (hat y hy).elim (ha y) id) h
  ·
   injection h with h
   subst h
   exact ⟨by omega, ha⟩
theorem tokR_oks (s : ByteArray) : (C.tokR s).1.length ≤ 1048576 ∧ ∀ y ∈ (C.tokR s).1, TokOk y := by
 by_cases h : (C.tokR s).2.2 = 0
 ·
  obtain ⟨hs, _, hr⟩ := C.tokR_ok h
  unfold C.readT at hr
  cases hst : C.startT s with
  | error z => rw [hst] at hr; cases hr
  | ok q =>
   rw [hst] at hr
   have := tk_ok hs _ q [] _ (C.start_le hst) (Nat.zero_le _) (fun y hy => by cases hy) hr
   exact ⟨by omega, this.2⟩
 ·
  rw [C.tokR_no h]
  exact ⟨Nat.zero_le _, fun y hy => by cases hy⟩
def wsum : List Nd → Nat
 | [] => 0
 | nd :: l => nd.ks.length + 1 + wsum l
theorem wsum_app (l m : List Nd) : wsum (l ++ m) = wsum l + wsum m := by
 induction l with
 | nil => simp [wsum]
 | cons a l ih => simp [wsum, ih]; omega
theorem wsum_mem {l : List Nd} {nd : Nd} (h : nd ∈ l) : nd.ks.length ≤ wsum l := by
 induction l with
 | nil => cases h
 | cons a l ih =>
  rcases List.mem_cons.1 h with rfl | h
  ·
   simp [wsum]; omega
  ·
   have := ih h; simp [wsum]; omega
def tokM (i : Nat) : Nat := i * 4194304
theorem tokM_mono {i k : Nat} (h : i ≤ k) : tokM i ≤ tokM k := Nat.mul_le_mul_right _ h
theorem tokM_succ (i : Nat) : tokM (i + 1) = tokM i + 4194304 := by unfold tokM; omega
structure Fits (i : Nat) (S : Bst) : Prop where
 many : S.many ≤ 20000
 sum : wsum S.stack ≤ S.many
 deep : S.stack.length ≤ 64
 said : ∀ nd ∈ S.stack, nd.said.size ≤ tokM i
 sps : ∀ (j : Nat) nd, S.stack[j]? = some nd → nd.sp.length ≤ 20 * (j + 1)
theorem Fits.start : Fits 0 bst0 := ⟨Nat.zero_le _, Nat.le_refl _, Nat.zero_le _, fun _ h => (by cases h), fun _ _ h => (by cases h)⟩
theorem last_split {l : List Nd} {nd : Nd} (h : l.getLast? = some nd) : ∃ m, l = m ++ [nd] := by
 obtain ⟨ys, e⟩ := List.getLast?_eq_some_iff.1 h
 exact ⟨ys, e⟩
theorem getD_set {stk : List Nd} {up nd : Nd} {j : Nat} {x : Nd} (h : (stk ++ [up])[j]? = some x) (hnd : nd.sp = up.sp) (P : Nat → Nd → Prop) (hp : ∀ (j : Nat) y, (stk ++ [nd])[j]? = some y → P j y) (hu : ∀ j, P j nd → P j up) : P j x := by
 by_cases hj : j < stk.length
 ·
  rw [List.getElem?_append_left hj] at h
  exact hp j x (by rw [List.getElem?_append_left hj]; exact h)
 ·
  rw [List.getElem?_append_right (by omega)] at h
  have : j - stk.length = 0 := by
   have := (List.getElem?_eq_some_iff.1 h).1
   simp at this
   omega
  rw [this] at h
  obtain rfl := Option.some.inj h
  exact hu j (hp j nd (by rw [List.getElem?_append_right (by omega), this]; rfl))
theorem Fits.turn {i k : Nat} {S S' : Bst} {stk : List Nd} {nd nd' : Nd} (h : Fits i S) (hS : S.stack = stk ++ [nd]) (hS' : S'.stack = stk ++ [nd']) (hik : i ≤ k) (hm : S'.many ≤ 20000) (hw : wsum stk + nd'.ks.length + 1 ≤ S'.many) (hsd : nd'.said.size ≤ tokM k) (hsp : nd'.sp = nd.sp) : Fits k S' := by
 refine ⟨hm, ?_, ?_, ?_, ?_⟩
 ·
  rw [hS', wsum_app]; simp [wsum]; omega
 ·
  have := h.deep; rw [hS] at this; rw [hS']; simpa using this
 ·
  intro x hx
  rw [hS'] at hx
  rcases List.mem_append.1 hx with hx | hx
  ·
   have := h.said x (by rw [hS]; exact List.mem_append_left _ hx)
   have := tokM_mono hik
   omega
  ·
   rw [List.mem_singleton] at hx; subst hx; exact hsd
 ·
  intro j x hx
  rw [hS'] at hx
  exact getD_set hx hsp.symm (fun j x => x.sp.length ≤ 20 * (j + 1)) (fun j y hy => h.sps j y (by rw [hS]; exact hy)) (fun j h => by rw [hsp]; exact h)
theorem atts_len : ∀ (l : List C.S77) (sp : List (List UInt8 × List UInt8)) (ks : List S24) (sp' : List (List UInt8 × List UInt8)) (ks' : List S24), attsT l sp ks = some (sp', ks') → sp'.length ≤ sp.length + l.length ∧ ks'.length ≤ ks.length + l.length
 | [], sp, ks, sp', ks', h => by
  rw [attsT] at h
  cases h
  exact ⟨by simp, by simp⟩
 | a :: l, sp, ks, sp', ks', h => by
  rw [attsT] at h
  split at h
  ·
   have := atts_len l _ _ _ _ h
   simp at this ⊢; omega
  ·
   split at h
   ·
    have := atts_len l _ _ _ _ h
    simp at this ⊢; omega
   ·
    split at h
    ·
     cases h
    ·
     have := atts_len l _ _ _ _ h
     simp at this ⊢; omega
theorem Fits.pop {i : Nat} {S : Bst} {stk : List Nd} {nd : Nd} (h : Fits i S) (hS : S.stack = stk ++ [nd]) : Fits i (popT S stk (valT nd) S.many) := by
 unfold popT
 cases hl : stk.getLast? with
 | none => exact ⟨h.many, Nat.zero_le _, Nat.zero_le _, fun _ h => (by cases h), fun _ _ h => (by cases h)⟩
 | some up =>
  obtain ⟨m, rfl⟩ := last_split hl
  simp only
  rw [set_snoc]
  have hsum := h.sum
  rw [hS, wsum_app, wsum_app] at hsum
  simp only [wsum] at hsum
  refine Fits.turn (S := { S with stack := m ++ [up] }) (nd := up) ?_ rfl rfl (Nat.le_refl i) h.many (by simp only [List.length_append, List.length_singleton]; omega) (h.said up (by rw [hS]; simp)) rfl
  refine ⟨h.many, by show wsum (m ++ [up]) ≤ S.many; rw [wsum_app]; simp only [wsum]; omega, ?_, ?_, ?_⟩
  ·
   have := h.deep; rw [hS] at this; simp at this; show (m ++ [up]).length ≤ 64; simp; omega
  ·
   intro x hx; exact h.said x (by rw [hS]; exact List.mem_append_left _ hx)
  ·
   intro j x hx
   refine h.sps j x ?_
   rw [hS, List.getElem?_append_left (List.getElem?_eq_some_iff.1 hx).1]
   exact hx
theorem Fits.mono {i k : Nat} {S : Bst} (h : Fits i S) (hik : i ≤ k) : Fits k S := ⟨h.many, h.sum, h.deep, fun nd hnd => by have := h.said nd hnd; have := tokM_mono hik; omega, h.sps⟩
theorem Fits.take {i : Nat} {S : Bst} {t : C.S44} (h : Fits i S) (ht : TokOk t) (h0 : (tokT S t).2 = 0) : Fits (i + 1) (tokT S t).1 := by
 unfold tokT at h0 ⊢
 by_cases k1 : t.f0 = 1
 ·
  rw [if_pos k1] at h0 ⊢
  unfold openT at h0 ⊢
  cases ha : attsT t.f3 (sp0T S) [] with
  | none => rw [ha] at h0; cases h0
  | some q =>
   obtain ⟨sp, ks⟩ := q
   have hal := atts_len _ _ _ _ _ ha
   rw [ha] at h0
   simp only at h0 ⊢
   split at h0
   ·
    cases h0
   ·
    rename_i c1
    rw [if_neg c1]
    split at h0
    ·
     cases h0
    ·
     rename_i c2
     rw [if_neg c2]
     split at h0
     ·
      cases h0
     ·
      rename_i c3
      rw [if_neg c3]
      split at h0
      ·
       cases h0
      ·
       rename_i c4
       rw [if_neg c4]
       split at h0
       ·
        cases h0
       ·
        rename_i c5
        rw [if_neg c5]
        clear c1 c2 c3
        generalize hinn : (⟨((spGet sp (D.splitT t.f1.data.toList).1).getD []).toArray⟩ : ByteArray) = inn at *
        generalize hnd : (⟨⟨(D.splitT t.f1.data.toList).2.1.toArray⟩, ⟨#[]⟩, ks, t.f1, sp, ⟨#[]⟩, false⟩ : Nd) = nd at *
        have hndk : nd.ks = ks := by rw [← hnd]
        have hndp : nd.sp = sp := by rw [← hnd]
        have hnds : nd.said.size = 0 := by rw [← hnd]; rfl
        have hndn : nd.name = t.f1 := by rw [← hnd]
        have hsp0 : (sp0T S).length ≤ 20 * S.stack.length := by
         unfold sp0T
         cases hl : S.stack.getLast? with
         | none => exact Nat.zero_le _
         | some up =>
          obtain ⟨m, e⟩ := last_split hl
          have := h.sps m.length up (by rw [e, List.getElem?_append_right (Nat.le_refl _)]; simp)
          rw [e]; simpa using this
        have hU : Fits i { (upT S inn).1 with many := S.many } ∧ (upT S inn).1.stack.length = S.stack.length ∧ wsum (upT S inn).1.stack = wsum S.stack := by
         unfold upT
         cases hl : S.stack.getLast? with
         | none => exact ⟨⟨h.many, h.sum, h.deep, h.said, h.sps⟩, rfl, rfl⟩
         | some up =>
          obtain ⟨m, e⟩ := last_split hl
          simp only
          rw [e, set_snoc]
          have hsum := h.sum
          rw [e, wsum_app] at hsum
          simp only [wsum] at hsum
          exact ⟨h.turn e rfl (Nat.le_refl i) h.many (by show wsum m + up.ks.length + 1 ≤ S.many; omega) (h.said up (by rw [e]; simp)) rfl, by simp, by rw [wsum_app, wsum_app]; rfl⟩
        obtain ⟨hU, hUl, hUw⟩ := hU
        have hF : Fits i { (upT S inn).1 with stack := (upT S inn).1.stack ++ [nd], many := S.many + ks.length + 1 } := by
         refine ⟨by show S.many + ks.length + 1 ≤ 20000; omega, ?_, ?_, ?_, ?_⟩
         ·
          show wsum ((upT S inn).1.stack ++ [nd]) ≤ _
          rw [wsum_app, hUw]
          simp only [wsum, hndk]
          have := h.sum
          omega
         ·
          show ((upT S inn).1.stack ++ [nd]).length ≤ 64
          have := h.deep
          simp only [List.length_append, List.length_singleton]
          omega
         ·
          intro x hx
          rcases List.mem_append.1 hx with hx | hx
          ·
           exact hU.said x hx
          ·
           rw [List.mem_singleton] at hx; subst hx; rw [hnds]; exact Nat.zero_le _
         ·
          intro j x hx
          have hx : ((upT S inn).1.stack ++ [nd])[j]? = some x := hx
          by_cases hj : j < (upT S inn).1.stack.length
          ·
           rw [List.getElem?_append_left hj] at hx
           exact hU.sps j x hx
          ·
           rw [List.getElem?_append_right (by omega)] at hx
           have : j - (upT S inn).1.stack.length = 0 := by
            have := (List.getElem?_eq_some_iff.1 hx).1
            simp at this
            omega
           rw [this] at hx
           obtain rfl := Option.some.inj hx
           rw [hndp]
           have := ht.many
           omega
        split
        ·
         have := close_pop { (upT S inn).1 with stack := (upT S inn).1.stack ++ [nd], many := S.many + ks.length + 1 } (upT S inn).1.stack nd t.f1 rfl hndn
         rw [this]
         exact (hF.pop rfl).mono (by omega)
        ·
         exact hF.mono (by omega)
 ·
  rw [if_neg k1] at h0 ⊢
  by_cases k2 : t.f0 = 2
  ·
   rw [if_pos k2] at h0 ⊢
   cases hl : S.stack.getLast? with
   | none => unfold closeT at h0; rw [hl] at h0; cases h0
   | some nd =>
    obtain ⟨m, e⟩ := last_split hl
    by_cases hn : nd.name = t.f1
    ·
     rw [close_pop S m nd t.f1 e hn]
     exact (h.pop e).mono (by omega)
    ·
     unfold closeT at h0
     rw [hl] at h0
     simp only at h0
     rw [if_neg hn] at h0
     cases h0
  ·
   rw [if_neg k2] at h0 ⊢
   unfold sayT
   cases hl : S.stack.getLast? with
   | none => exact h.mono (by omega)
   | some nd =>
    obtain ⟨m, e⟩ := last_split hl
    simp only
    have hsum := h.sum
    rw [e, wsum_app] at hsum
    simp only [wsum] at hsum
    refine h.turn (nd' := { nd with said := nd.said ++ t.f2 }) e (by show S.stack.set _ _ = _; rw [e, set_snoc]) (by omega) h.many (by show wsum m + nd.ks.length + 1 ≤ S.many; omega) ?_ rfl
    show (nd.said ++ t.f2).size ≤ _
    rw [ByteArray.size_append]
    have := h.said nd (by rw [e]; simp)
    have := ht.text
    have := tokM_succ i
    omega
end Go.Proofs.YtknfpggiigncpaaGreatDoor.T
