/- May a tree be written: the program's way over all its parts, and the document's way by shapes: plain. -/
import Derived.Test.YtknfpggiigncpaaGreatDoorAx0
import Derived.Test.YtknfpggiigncpaaGreatDoorCkLaw
set_option linter.unusedVariables false
set_option linter.unusedSimpArgs false
namespace Go.Proofs.YtknfpggiigncpaaGreatDoor.E
open Go.RowKit Go.Proofs.YtknfpggiigncpaaGreatDoor.P

def letB (c : UInt8) : Bool := (decide (97 ≤ c.toNat) && decide (c.toNat ≤ 122)) || (decide (65 ≤ c.toNat) && decide (c.toNat ≤ 90)) || c.toNat == 95
def insB (c : UInt8) : Bool := letB c || (decide (48 ≤ c.toNat) && decide (c.toNat ≤ 57)) || c.toNat == 45 || c.toNat == 46
/-- May a name be one? -/
def nameB : List UInt8 → Bool
  | [] => false
  | b :: r => letB b && r.all insB && decide (r.length ≤ 99)
def goodB (l : List UInt8) : Bool := decide ((ckL l).2 = 0)
def attrB (v : S24) : Bool := match v.f0.data.toList with | [] => false | b :: _ => b == 64
def atL (v : S24) : List UInt8 := v.f0.data.toList.drop 1
/-- An attribute, behind others. -/
def attrOk (prev : List S24) (a : S24) : Bool :=
  nameB (atL a) && !(a.f0.data.toList == [64, 120, 109, 108, 110, 115]) && goodB a.f1.data.toList && a.f2.isEmpty && !(prev.any fun b => b.f0.data.toList == a.f0.data.toList)
/-- Parts one behind the other: attributes first, each once; behind them elements alone. -/
def attrsOk (prev : List S24) : List S24 → Bool
  | [] => true
  | a :: l => attrOk prev a && attrsOk (prev ++ [a]) l
def attN (l : List S24) : Nat := (l.takeWhile attrB).length
def oneT (v : S24) : Bool :=
  nameB v.f0.data.toList && goodB v.f1.data.toList && decide (attN v.f2 ≤ 19) && !(decide (attN v.f2 < v.f2.length) && !v.f1.data.toList.isEmpty)
    && !((v.f2.drop (attN v.f2)).any attrB) && attrsOk [] (v.f2.take (attN v.f2))
/-- The program's: every part, so many deep at most. -/
def allN : Nat → S24 → Bool
  | 0, p => attrB p
  | e + 1, p => (attrB p || oneT p) && p.f2.all (allN e)
def mayP (v : S24) : Bool := !attrB v && allN 64 v
/-- The document's: the parts behind others (how many attributes; was there an element?). -/
def shapeT : Nat → S24 → Bool
  | 0, _ => false
  | d + 1, v => nameB v.f0.data.toList && goodB v.f1.data.toList && kids (shapeT d) v.f1.data.toList.isEmpty [] 0 false v.f2
where
  kids (sh : S24 → Bool) (noText : Bool) : List S24 → Nat → Bool → List S24 → Bool
    | _, _, el, [] => !el || noText
    | prev, n, el, k :: l =>
      if attrB k then !el && decide (n + 1 ≤ 19) && nameB (atL k) && !(k.f0.data.toList == [64, 120, 109, 108, 110, 115]) && goodB k.f1.data.toList && k.f2.isEmpty && !(prev.any fun b => b.f0.data.toList == k.f0.data.toList) && kids sh noText (prev ++ [k]) (n + 1) el l
      else sh k && kids sh noText (prev ++ [k]) n true l
theorem attr_name (v : S24) (h : attrB v = true) : nameB v.f0.data.toList = false := by
  unfold attrB at h
  cases hl : v.f0.data.toList with
  | nil => rw [hl] at h; cases h
  | cons b r =>
    rw [hl] at h
    have : b = 64 := beq_iff_eq.1 h
    subst this
    rfl
/-- Behind an element: elements alone. -/
theorem kids_el (sh : S24 → Bool) (nt : Bool) : ∀ (l prev : List S24) (n : Nat), shapeT.kids sh nt prev n true l = (l.all (fun k => !attrB k && sh k) && nt)
  | [], prev, n => by simp [shapeT.kids]
  | k :: l, prev, n => by
    simp only [shapeT.kids]
    by_cases h : attrB k = true
    · simp [h]
    · simp only [h, Bool.false_eq_true, if_false]
      rw [kids_el sh nt l]
      simp [h, Bool.and_assoc]
theorem kids_at (sh : S24 → Bool) (nt : Bool) : ∀ (l prev : List S24) (n : Nat), shapeT.kids sh nt prev n false l =
    (attrsOk prev (l.takeWhile attrB) && decide (n + attN l ≤ 19 ∨ attN l = 0) && (l.dropWhile attrB).all (fun k => !attrB k && sh k) && ((l.dropWhile attrB).isEmpty || nt))
  | [], prev, n => by simp [shapeT.kids, attrsOk, attN]
  | k :: l, prev, n => by
    simp only [shapeT.kids]
    by_cases h : attrB k = true
    · rw [if_pos h, kids_at sh nt l, List.takeWhile_cons_of_pos h, List.dropWhile_cons_of_pos h]
      have e1 : attN (k :: l) = attN l + 1 := by unfold attN; rw [List.takeWhile_cons_of_pos h]; rfl
      rw [e1]
      simp only [attrsOk, attrOk]
      have e2 : decide (n + (attN l + 1) ≤ 19 ∨ attN l + 1 = 0) = (decide (n + 1 ≤ 19) && decide (n + 1 + attN l ≤ 19 ∨ attN l = 0)) := by
        rw [Bool.eq_iff_iff]
        simp
        omega
      rw [e2]
      cases nameB (atL k) <;> cases (k.f0.data.toList == [64, 120, 109, 108, 110, 115]) <;> cases goodB k.f1.data.toList <;> cases k.f2.isEmpty <;> cases (prev.any fun b => b.f0.data.toList == k.f0.data.toList) <;> cases decide (n + 1 ≤ 19) <;> simp
    · have h' : attrB k = false := by simpa using h
      rw [if_neg h, kids_el, List.takeWhile_cons_of_neg h, List.dropWhile_cons_of_neg h]
      have e1 : attN (k :: l) = 0 := by unfold attN; rw [List.takeWhile_cons_of_neg h]; rfl
      rw [e1]
      simp [attrsOk, h', Bool.and_assoc]
theorem take_att (l : List S24) : l.take (attN l) = l.takeWhile attrB := by
  unfold attN
  induction l with
  | nil => rfl
  | cons k l ih =>
    by_cases h : attrB k = true
    · rw [List.takeWhile_cons_of_pos h, List.length_cons, List.take_succ_cons, ih]
    · rw [List.takeWhile_cons_of_neg h]; rfl
theorem drop_att (l : List S24) : l.drop (attN l) = l.dropWhile attrB := by
  unfold attN
  induction l with
  | nil => rfl
  | cons k l ih =>
    by_cases h : attrB k = true
    · rw [List.takeWhile_cons_of_pos h, List.length_cons, List.drop_succ_cons, ih, List.dropWhile_cons_of_pos h]
    · rw [List.takeWhile_cons_of_neg h, List.dropWhile_cons_of_neg h]; rfl
theorem attrs_kids : ∀ (l prev : List S24), attrsOk prev l = true → ∀ a ∈ l, a.f2 = []
  | [], prev, _, a, ha => by cases ha
  | k :: l, prev, h, a, ha => by
    simp only [attrsOk, Bool.and_eq_true] at h
    rcases List.mem_cons.1 ha with rfl | ha
    · have := h.1
      unfold attrOk at this
      simp only [Bool.and_eq_true] at this
      exact List.isEmpty_iff.1 this.1.2
    · exact attrs_kids l _ h.2 a ha
theorem tw_all (l : List S24) : ∀ a ∈ l.takeWhile attrB, attrB a = true := by
  intro a ha
  induction l with
  | nil => cases ha
  | cons k l ih =>
    by_cases h : attrB k = true
    · rw [List.takeWhile_cons_of_pos h] at ha
      rcases List.mem_cons.1 ha with rfl | ha
      · exact h
      · exact ih ha
    · rw [List.takeWhile_cons_of_neg h] at ha
      cases ha
/-- Both ways answer alike. -/
theorem may_alike : ∀ (e : Nat) (v : S24), attrB v = false → allN e v = shapeT e v
  | 0, v, h => by simp [allN, shapeT, h]
  | e + 1, v, h => by
    simp only [allN, shapeT, h, Bool.false_or, oneT]
    rw [kids_at, take_att, drop_att]
    have hsplit : v.f2 = v.f2.takeWhile attrB ++ v.f2.dropWhile attrB := List.takeWhile_append_dropWhile.symm
    have hempty : (v.f2.dropWhile attrB).isEmpty = !decide (attN v.f2 < v.f2.length) := by
      rw [← drop_att, Bool.eq_iff_iff]
      simp [List.isEmpty_iff, List.drop_eq_nil_iff]
    cases hA : attrsOk [] (v.f2.takeWhile attrB) with
    | false => simp
    | true =>
      have hk := attrs_kids _ _ hA
      have ht := tw_all v.f2
      have h1 : (v.f2.takeWhile attrB).all (allN e) = true := by
        rw [List.all_eq_true]
        intro a ha
        cases e with
        | zero => exact ht a ha
        | succ e => simp only [allN, ht a ha, hk a ha, Bool.true_or, List.all_nil, Bool.and_self]
      have h2 : v.f2.all (allN e) = (v.f2.dropWhile attrB).all (allN e) := by
        conv => lhs; rw [hsplit]
        rw [List.all_append, h1, Bool.true_and]
      have h3 : ((v.f2.dropWhile attrB).all fun k => !attrB k && shapeT e k) = (!((v.f2.dropWhile attrB).any attrB) && (v.f2.dropWhile attrB).all (allN e)) := by
        generalize v.f2.dropWhile attrB = m
        induction m with
        | nil => rfl
        | cons k m ih =>
          rw [List.all_cons, List.any_cons, List.all_cons, ih]
          cases hk2 : attrB k with
          | true => simp
          | false => rw [may_alike e k hk2]; simp; cases shapeT e k <;> simp
      have h4 : decide (0 + attN v.f2 ≤ 19 ∨ attN v.f2 = 0) = decide (attN v.f2 ≤ 19) := by
        rw [Bool.eq_iff_iff]
        simp
        omega
      rw [h2, h3, h4, hempty]
      cases nameB v.f0.data.toList <;> cases goodB v.f1.data.toList <;> cases decide (attN v.f2 ≤ 19) <;> cases decide (attN v.f2 < v.f2.length) <;> cases v.f1.data.toList.isEmpty <;> cases (v.f2.dropWhile attrB).any attrB <;> simp
theorem may_both (v : S24) : mayP v = shapeT 64 v := by
  unfold mayP
  cases h : attrB v with
  | true =>
    have := attr_name v h
    simp [shapeT, this]
  | false => rw [may_alike 64 v h]; rfl
end Go.Proofs.YtknfpggiigncpaaGreatDoor.E
