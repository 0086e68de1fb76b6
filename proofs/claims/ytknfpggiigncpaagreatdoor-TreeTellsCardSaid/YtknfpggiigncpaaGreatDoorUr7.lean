/- Plain: the program's tree is the document's; a place lies in the text. -/
import Derived.Test.YtknfpggiigncpaaGreatDoorUr6
set_option linter.unusedVariables false
set_option linter.unusedSimpArgs false
namespace Go.Proofs.YtknfpggiigncpaaGreatDoor.T
open Go.RowKit P E
theorem parse_same (s : ByteArray) : parseT s = parseD s := by
 unfold parseT parseD
 by_cases h : (C.tokR s).2.2 ≠ 0
 ·
  rw [if_pos h, if_pos h]
 ·
  rw [if_neg h, if_neg h]
  exact top_run (s.size : Int) (C.tokR s).1.length (C.tokR s).1 bst0 (Nat.le_refl _) rfl (fun t ht => ((tokR_oks s).2 t ht).kind)
def Pl (n : Int) (l : List C.S44) : Prop := ∀ t ∈ l, 0 ≤ t.f5 ∧ t.f5 ≤ n
theorem Pl.tail {n : Int} {x : C.S44} {l : List C.S44} (h : Pl n (x :: l)) : Pl n l := fun t ht => h t (List.mem_cons_of_mem _ ht)
theorem Pl.head {n : Int} {x : C.S44} {l : List C.S44} (h : Pl n (x :: l)) : 0 ≤ x.f5 ∧ x.f5 ≤ n := h x (List.mem_cons_self ..)
def PF (n : Int) : Except (Int × Int) (S24 × Nat × List C.S44) → Prop
 | .error z => 0 ≤ z.1 ∧ z.1 ≤ n
 | .ok (_, _, l) => Pl n l
theorem loopR_place (n : Int) (hn : 0 ≤ n) : ∀ (k : Nat) (nd : Nd) (deep many : Nat) (space : ByteArray) (toks : List C.S44), Pl n toks → PF n (loopR n k nd deep many space toks) := by
 intro k
 induction k with
 | zero => intro nd deep many space toks hm; exact ⟨hn, Int.le_refl _⟩
 | succ k ih =>
  intro nd deep many space toks hp
  cases toks with
  | nil => exact ⟨hn, Int.le_refl _⟩
  | cons x l =>
   rw [loopR]
   by_cases c3 : x.f0 = 3
   ·
    rw [if_pos c3]
    by_cases c : nd.hask = true ∧ blankL x.f2.data.toList = false
    ·
     rw [if_pos c]; exact hp.head
    ·
     rw [if_neg c]; exact ih _ deep many space l hp.tail
   rw [if_neg c3]
   by_cases c2 : x.f0 = 2
   ·
    rw [if_pos c2]
    by_cases c : x.f1 = nd.name
    ·
     rw [if_pos c]; exact hp.tail
    ·
     rw [if_neg c]; exact hp.head
   rw [if_neg c2]
   by_cases cs : blankL nd.said.data.toList = false
   ·
    rw [if_pos cs]; exact hp.head
   rw [if_neg cs]
   cases hh : headT nd.sp (deep + 1) many space x with
   | error e => exact hp.head
   | ok z =>
    obtain ⟨nd2, many2, s2⟩ := z
    simp only
    by_cases c4 : x.f4 = true
    ·
     rw [if_pos c4]; exact ih _ deep many2 space l hp.tail
    rw [if_neg c4]
    have h2 := ih nd2 (deep + 1) many2 space l hp.tail
    cases hl : loopR n k nd2 (deep + 1) many2 space l with
    | error z => rw [hl] at h2; exact h2
    | ok z =>
     obtain ⟨v, many3, l'⟩ := z
     rw [hl] at h2
     exact ih _ deep many3 space l' h2
theorem topR_place (n : Int) (hn : 0 ≤ n) : ∀ (k : Nat) (done : Bool) (root : S24) (many : Nat) (space : ByteArray) (toks : List C.S44), Pl n toks → 0 ≤ (topR n k done root many space toks).at_ ∧ (topR n k done root many space toks).at_ ≤ n := by
 intro k
 induction k with
 | zero =>
  intro done root many space toks hp
  cases done <;> exact ⟨hn, Int.le_refl _⟩
 | succ k ih =>
  intro done root many space toks hp
  cases toks with
  | nil => cases done <;> exact ⟨hn, Int.le_refl _⟩
  | cons x l =>
   rw [topR]
   by_cases c3 : x.f0 = 3 ∧ blankL x.f2.data.toList = true
   ·
    rw [if_pos c3]; exact ih done root many space l hp.tail
   rw [if_neg c3]
   by_cases c1 : x.f0 ≠ 1 ∨ done = true
   ·
    rw [if_pos c1]; exact hp.head
   rw [if_neg c1]
   cases hh : headT [] 0 many space x with
   | error e => exact hp.head
   | ok z =>
    obtain ⟨nd, many2, s2⟩ := z
    simp only
    by_cases c4 : x.f4 = true
    ·
     rw [if_pos c4]; exact ih true _ many2 s2 l hp.tail
    rw [if_neg c4]
    have h2 := loopR_place n hn k nd 0 many2 s2 l hp.tail
    cases hl : loopR n k nd 0 many2 s2 l with
    | error z => rw [hl] at h2; exact h2
    | ok z =>
     obtain ⟨v, many3, l'⟩ := z
     rw [hl] at h2
     exact ih true v many3 s2 l' h2
theorem ck_place : ∀ (n : Nat) (l : List UInt8), l.length ≤ n → (ckL l).1 ≤ l.length
 | _, [], _ => by rw [ckL_nil]; exact Nat.le_refl _
 | 0, b :: r, h => by simp at h
 | n + 1, b :: r, h => by
  simp only [List.length_cons] at h ⊢
  rw [ckL_cons]
  have hd := decC_len b (r.takeWhile isC)
  have hw : (r.takeWhile isC).length ≤ r.length := (List.takeWhile_sublist _).length_le
  have hi := ck_place n (r.drop ((decC b (r.takeWhile isC)).2 - 1)) (by rw [List.length_drop]; omega)
  rw [List.length_drop] at hi
  split
  ·
   exact Nat.zero_le _
  ·
   split
   ·
    show _ + _ ≤ _
    omega
   ·
    exact Nat.zero_le _
theorem until_err {s : ByteArray} {p a : Nat} {t : List UInt8} {er : Int} (h : C.untilT s p t = .error (a, er)) : a = p := by
 unfold C.untilT at h
 split at h
 ·
  cases h
 ·
  injection h with h; injection h with h1 _; exact h1.symm
theorem until_q {s : ByteArray} {p q : Nat} {t v : List UInt8} (h : C.untilT s p t = .ok (v, q)) : q = p + (v.length + t.length) := by
 unfold C.untilT at h
 split at h
 ·
  injection h with h; injection h with h1 h2; rw [← h2, ← h1]
 ·
  cases h
theorem name_err {s : ByteArray} {p a : Nat} {er : Int} (h : C.nameT s p = .error (a, er)) : a = p := by
 unfold C.nameT at h
 split at h
 ·
  injection h with h; injection h with h1 _; exact h1.symm
 ·
  cases h
theorem must_err {s : ByteArray} {p a : Nat} {t : List UInt8} {er : Int} (h : C.mustT s p t = .error (a, er)) : a = p := by
 unfold C.mustT at h
 split at h
 ·
  cases h
 ·
  injection h with h; injection h with h1 _; exact h1.symm
theorem plain_err {l : List UInt8} {b a : Nat} {er : Int} (h : C.plainT l b = .error (a, er)) : a ≤ b + l.length := by
 unfold C.plainT at h
 split at h
 ·
  cases h
 ·
  injection h with h; injection h with h1 _
  have := C.un_place l.length l 0 [] (Nat.le_refl _)
  omega
theorem p3_le {s : ByteArray} {p : Nat} (hp : p ≤ s.size) : C.p3T s p ≤ s.size := by
 unfold C.p3T
 have := C.blankN_le (C.rs s p)
 rw [C.rs_len] at this
 omega
theorem attr1_err {s : ByteArray} {q a : Nat} {er : Int} {acc : List C.S77} (hq : q ≤ s.size) (h : C.attr1T s q acc = .error (a, er)) : a ≤ s.size := by
 unfold C.attr1T at h
 cases h1 : C.nameT s q with
 | error z =>
  rw [h1] at h
  injection h with h
  subst h
  have := name_err h1
  omega
 | ok y =>
  obtain ⟨nm, p2⟩ := y
  have l1 := C.nameT_le h1 hq
  rw [h1] at h
  simp only at h
  have g1 := p3_le l1.1
  cases h2 : C.mustT s (C.p3T s p2) [61] with
  | error z =>
   rw [h2] at h
   injection h with h
   subst h
   have := must_err h2
   omega
  | ok p4 =>
   have l2 := C.mustT_le h2 g1
   have g2 := p3_le l2.1
   rw [h2] at h
   simp only at h
   split at h
   ·
    injection h with h
    injection h with h _
    omega
   ·
    rename_i hbq
    have hq1 : C.p3T s p4 + 1 ≤ s.size := by
     by_cases hlt : C.p3T s p4 < s.size
     ·
      omega
     ·
      exfalso
      apply hbq
      have : C.rs s (C.p3T s p4) = [] := List.length_eq_zero_iff.1 (by rw [C.rs_len]; omega)
      rw [this]
      exact ⟨by simp, by simp⟩
    cases h3 : C.untilT s (C.p3T s p4 + 1) ((C.rs s (C.p3T s p4)).take 1) with
    | error z =>
     rw [h3] at h
     injection h with h
     subst h
     have := until_err h3
     omega
    | ok y =>
     obtain ⟨v, p7'⟩ := y
     have l3 := C.untilT_le h3 hq1
     have l4 := until_q h3
     rw [h3] at h
     simp only at h
     split at h
     ·
      injection h with h
      injection h with h _
      omega
     ·
      cases h4 : C.plainT v (C.p3T s p4 + 1) with
      | error z =>
       rw [h4] at h
       injection h with h
       subst h
       have := plain_err h4
       omega
      | ok x => rw [h4] at h; cases h
theorem attrs_err {s : ByteArray} (hs : s.size ≤ 1048576) {a : Nat} {er : Int} : ∀ (f p : Nat) (acc : List C.S77), p ≤ s.size → C.attrsT s f p acc = .error (a, er) → a ≤ s.size
 | 0, p, acc, hp, h => by cases h
 | f + 1, p, acc, hp, h => by
  rw [C.attrsT] at h
  split at h
  ·
   cases h1 : C.attr1T s (C.p3T s p) acc with
   | error z =>
    rw [h1] at h
    injection h with h
    subst h
    exact attr1_err (p3_le hp) h1
   | ok y =>
    obtain ⟨x, p7⟩ := y
    have l1 := attr1_ok hs (p3_le hp) h1
    rw [h1] at h
    exact attrs_err hs f p7 _ l1.1 h
  ·
   cases h
theorem tk1_err {s : ByteArray} (hs : s.size ≤ 1048576) {p a : Nat} {er : Int} {xs : List C.S44} (hp : p < s.size) (h : C.tk1T s p xs = .error (a, er)) : a ≤ s.size := by
 have hrl := C.rs_len s p
 have hfi := C.formI_le (C.rs s p)
 unfold C.tk1T at h
 split at h
 ·
  rename_i hI
  have h4 := hfi.1 hI
  unfold C.form1R C.form1T at h
  cases hu : C.untilT s (p + 4) [45, 45, 62] with
  | error x =>
   rw [hu] at h
   injection h with h
   subst h
   have := until_err hu
   omega
  | ok x =>
   rw [hu] at h
   simp only at h
   split at h
   ·
    injection h with h
    injection h with h _
    omega
   ·
    cases h
 ·
  rename_i hI
  have h9 := hfi.2.1 hI
  unfold C.form2T at h
  cases hu : C.untilT s (p + 9) [93, 93, 62] with
  | error x =>
   rw [hu] at h
   injection h with h
   subst h
   have := until_err hu
   omega
  | ok x => rw [hu] at h; cases h
 ·
  rename_i hI
  have h2 := hfi.2.2.1 hI
  unfold C.form3T at h
  cases hu : C.nameT s (p + 2) with
  | error x =>
   rw [hu] at h
   injection h with h
   subst h
   have := name_err hu
   omega
  | ok x =>
   obtain ⟨nm, q⟩ := x
   have l1 := C.nameT_le hu (by omega)
   rw [hu] at h
   simp only at h
   have g1 : q + C.blankN (C.rs s q) ≤ s.size := p3_le l1.1
   cases hm : C.mustT s (q + C.blankN (C.rs s q)) [62] with
   | error x =>
    rw [hm] at h
    injection h with h
    subst h
    have := must_err hm
    omega
   | ok x => rw [hm] at h; cases h
 ·
  rename_i n hI hx hy hz
  unfold C.form4T at h
  cases hu : C.nameT s (p + 1) with
  | error x =>
   rw [hu] at h
   injection h with h
   subst h
   have := name_err hu
   omega
  | ok x =>
   obtain ⟨nm, q⟩ := x
   have l1 := C.nameT_le hu (by omega)
   rw [hu] at h
   simp only at h
   cases ha : C.attrsT s (s.size + 1 - q) q [] with
   | error x =>
    rw [ha] at h
    injection h with h
    subst h
    exact attrs_err hs _ _ _ l1.1 ha
   | ok x =>
    obtain ⟨l, q2⟩ := x
    have l2 := C.attrsT_le s _ _ _ _ _ l1.1 ha
    rw [ha] at h
    simp only at h
    have g1 : C.selfN s q2 ≤ s.size := by
     unfold C.selfN
     split
     ·
      rename_i hb
      have := Lib.hasPrefix_le hb
      rw [C.rs_len] at this
      simp at this
      omega
     ·
      exact l2.1
    cases hm : C.mustT s (C.selfN s q2) [62] with
    | error x =>
     rw [hm] at h
     injection h with h
     subst h
     have := must_err hm
     omega
    | ok x => rw [hm] at h; cases h
 ·
  unfold C.textTk at h
  cases hu : C.plainT (Lib.cut (C.rs s p) [60]).1 p with
  | error x =>
   rw [hu] at h
   injection h with h
   subst h
   have := plain_err hu
   have := C.cut_le (C.rs s p) [60]
   omega
  | ok x => rw [hu] at h; cases h
theorem tk_err {s : ByteArray} (hs : s.size ≤ 1048576) {a : Nat} {er : Int} : ∀ (f p : Nat) (xs : List C.S44), p ≤ s.size → C.tkT s f p xs = .error (a, er) → a ≤ s.size
 | 0, p, xs, hp, h => by cases h
 | f + 1, p, xs, hp, h => by
  rw [C.tkT] at h
  split at h
  ·
   rename_i hlt
   cases h1 : C.tk1T s p xs with
   | error z =>
    rw [h1] at h
    injection h with h
    subst h
    exact tk1_err hs hlt h1
   | ok y =>
    obtain ⟨q, ys⟩ := y
    rw [h1] at h
    exact tk_err hs f q ys (C.tk1_le hlt h1).2.1 h
  ·
   cases h
theorem start_err {s : ByteArray} {a : Nat} {er : Int} (h : C.startT s = .error (a, er)) : a ≤ s.size := by
 unfold C.startT at h
 split at h
 ·
  rename_i hb
  have hl := Lib.hasPrefix_le hb
  simp at hl
  cases hu : C.untilT s 5 [63, 62] with
  | error x =>
   rw [hu] at h
   injection h with h
   subst h
   have := until_err hu
   omega
  | ok x =>
   rw [hu] at h
   simp only at h
   split at h
   ·
    injection h with h
    injection h with h _
    omega
   ·
    cases h
 ·
  cases h
theorem put_mem {xs : List C.S44} {t y : C.S44} (h : y ∈ C.putT xs t) : y ∈ xs ∨ y = t := by
 unfold C.putT at h
 split at h
 ·
  exact .inl h
 ·
  simpa using h
theorem tk1_f5 {s : ByteArray} {p q : Nat} {xs ys : List C.S44} (hp : p < s.size) (h : C.tk1T s p xs = .ok (q, ys)) : ∀ y ∈ ys, y ∈ xs ∨ (0 ≤ y.f5 ∧ y.f5 ≤ (s.size : Int)) := by
 unfold C.tk1T at h
 split at h
 ·
  unfold C.form1R C.form1T at h
  cases hu : C.untilT s (p + 4) [45, 45, 62] with
  | error x => rw [hu] at h; cases h
  | ok x =>
   rw [hu] at h
   simp only at h
   split at h
   ·
    cases h
   ·
    injection h with h
    injection h with h1 h2
    subst h2
    exact fun y hy => .inl hy
 ·
  unfold C.form2T at h
  cases hu : C.untilT s (p + 9) [93, 93, 62] with
  | error x => rw [hu] at h; cases h
  | ok x =>
   rw [hu] at h
   injection h with h
   injection h with h1 h2
   subst h2
   intro y hy
   rcases put_mem hy with hy | rfl
   ·
    exact .inl hy
   ·
    refine .inr ⟨?_, ?_⟩ <;> simp only <;> omega
 ·
  unfold C.form3T at h
  cases hu : C.nameT s (p + 2) with
  | error x => rw [hu] at h; cases h
  | ok x =>
   obtain ⟨nm, q1⟩ := x
   rw [hu] at h
   simp only at h
   cases hm : C.mustT s (q1 + C.blankN (C.rs s q1)) [62] with
   | error x => rw [hm] at h; cases h
   | ok x =>
    rw [hm] at h
    injection h with h
    injection h with h1 h2
    subst h2
    intro y hy
    rcases put_mem hy with hy | rfl
    ·
     exact .inl hy
    ·
     refine .inr ⟨?_, ?_⟩ <;> simp only <;> omega
 ·
  unfold C.form4T at h
  cases hu : C.nameT s (p + 1) with
  | error x => rw [hu] at h; cases h
  | ok x =>
   obtain ⟨nm, q1⟩ := x
   rw [hu] at h
   simp only at h
   cases ha : C.attrsT s (s.size + 1 - q1) q1 [] with
   | error x => rw [ha] at h; cases h
   | ok x =>
    obtain ⟨l, q2⟩ := x
    rw [ha] at h
    simp only at h
    cases hm : C.mustT s (C.selfN s q2) [62] with
    | error x => rw [hm] at h; cases h
    | ok x =>
     rw [hm] at h
     injection h with h
     injection h with h1 h2
     subst h2
     intro y hy
     rcases put_mem hy with hy | rfl
     ·
      exact .inl hy
     ·
      refine .inr ⟨?_, ?_⟩ <;> simp only <;> omega
 ·
  unfold C.textTk at h
  cases hu : C.plainT (Lib.cut (C.rs s p) [60]).1 p with
  | error x => rw [hu] at h; cases h
  | ok x =>
   rw [hu] at h
   injection h with h
   injection h with h1 h2
   subst h2
   intro y hy
   rcases put_mem hy with hy | rfl
   ·
    exact .inl hy
   ·
    refine .inr ⟨?_, ?_⟩ <;> simp only <;> omega
theorem tk_f5 {s : ByteArray} : ∀ (f p : Nat) (xs ys : List C.S44), p ≤ s.size → Pl (s.size : Int) xs → C.tkT s f p xs = .ok ys → Pl (s.size : Int) ys
 | 0, p, xs, ys, hp, hx, h => by injection h with h; subst h; exact hx
 | f + 1, p, xs, ys, hp, hx, h => by
  rw [C.tkT] at h
  split at h
  ·
   rename_i hlt
   cases h1 : C.tk1T s p xs with
   | error z => rw [h1] at h; cases h
   | ok y =>
    obtain ⟨q, zs⟩ := y
    rw [h1] at h
    exact tk_f5 f q zs ys (C.tk1_le hlt h1).2.1 (fun t ht => (tk1_f5 hlt h1 t ht).elim (hx t) id) h
  ·
   injection h with h; subst h; exact hx
theorem tokR_place (s : ByteArray) : (0 ≤ (C.tokR s).2.1 ∧ (C.tokR s).2.1 ≤ (s.size : Int)) ∧ Pl (s.size : Int) (C.tokR s).1 := by
 unfold C.tokR
 split
 ·
  exact ⟨⟨Int.le_refl _, by show (0 : Int) ≤ _; omega⟩, fun t h => by cases h⟩
 ·
  rename_i hs
  split
  ·
   have := ck_place s.data.toList.length s.data.toList (Nat.le_refl _)
   rw [← Lib.size_eq] at this
   exact ⟨⟨by show (0 : Int) ≤ ((ckL s.data.toList).1 : Int); omega, by show ((ckL s.data.toList).1 : Int) ≤ _; omega⟩, fun t h => by cases h⟩
  ·
   cases hr : C.readT s with
   | error z =>
    obtain ⟨a, er⟩ := z
    have ha : a ≤ s.size := by
     unfold C.readT at hr
     cases hst : C.startT s with
     | error z =>
      rw [hst] at hr
      injection hr with hr
      subst hr
      exact start_err hst
     | ok q =>
      rw [hst] at hr
      exact tk_err (by omega) _ _ _ (C.start_le hst) hr
    exact ⟨⟨by show (0 : Int) ≤ (a : Int); omega, by show (a : Int) ≤ _; omega⟩, fun t h => by cases h⟩
   | ok xs =>
    refine ⟨⟨by show (0 : Int) ≤ (s.size : Int); omega, Int.le_refl _⟩, ?_⟩
    unfold C.readT at hr
    cases hst : C.startT s with
    | error z => rw [hst] at hr; cases hr
    | ok q =>
     rw [hst] at hr
     exact tk_f5 _ _ _ _ (C.start_le hst) (fun t h => by cases h) hr
theorem parse_place (s : ByteArray) : 0 ≤ (parseD s).at_ ∧ (parseD s).at_ ≤ (s.size : Int) := by
 have h := tokR_place s
 unfold parseD
 split
 ·
  exact h.1
 ·
  exact topR_place (s.size : Int) (by omega) _ _ _ _ _ _ h.2
end Go.Proofs.YtknfpggiigncpaaGreatDoor.T
