/- Plain: the tokens of a text that is put together of tags, texts and comments. -/
import Derived.Test.YtknfpggiigncpaaGreatDoorXTok10
set_option linter.unusedVariables false
set_option linter.unusedSimpArgs false
namespace Go.Proofs.YtknfpggiigncpaaGreatDoor.C
open Go.RowKit P YtknfpggiigncpaaGreatDoorW.PrintWords
theorem tw_until (f : UInt8 → Bool) : ∀ (l : List UInt8) (r : List UInt8), (∀ c ∈ l, f c = true) → (∀ c r', r = c :: r' → f c = false) → (l ++ r).takeWhile f = l
 | [], r, _, hr => by
  cases r with
  | nil => rfl
  | cons c r => rw [List.nil_append, List.takeWhile_cons, hr c r rfl]; rfl
 | b :: l, r, hl, hr => by
  rw [List.cons_append, List.takeWhile_cons, hl b (by simp), tw_until f l r (fun x hx => hl x (List.mem_cons_of_mem _ hx)) hr]
  rfl
theorem index_byte_at (c : UInt8) : ∀ (l r : List UInt8), (∀ b ∈ l, b ≠ c) → Lib.index (l ++ c :: r) [c] = (l.length : Int)
 | [], r, _ => by simp [Lib.index, List.isPrefixOf]
 | b :: l, r, h => by
  have ih := index_byte_at c l r (fun x hx => h x (List.mem_cons_of_mem _ hx))
  have hb : ([c] : List UInt8).isPrefixOf (b :: (l ++ c :: r)) = false := by
   have : ¬ c = b := fun e => h b (by simp) e.symm
   simp [List.isPrefixOf, this]
  rw [List.cons_append, Lib.index, hb, ih]
  have : ((l.length : Int) == -1) = false := beq_eq_false_iff_ne.2 (by omega)
  rw [this]
  simp
theorem index_byte_no (c : UInt8) : ∀ (l : List UInt8), (∀ b ∈ l, b ≠ c) → Lib.index l [c] = -1
 | [], _ => rfl
 | b :: l, h => by
  have ih := index_byte_no c l (fun x hx => h x (List.mem_cons_of_mem _ hx))
  have hb : ([c] : List UInt8).isPrefixOf (b :: l) = false := by
   have : ¬ c = b := fun e => h b (by simp) e.symm
   simp [List.isPrefixOf, this]
  rw [Lib.index, hb, ih]
  rfl
theorem cut_at (c : UInt8) (l r : List UInt8) (h : ∀ b ∈ l, b ≠ c) : Lib.cut (l ++ c :: r) [c] = (l, r, true) := by
 unfold Lib.cut
 rw [index_byte_at c l r h, if_pos (by omega)]
 simp
theorem contains_no (c : UInt8) (l : List UInt8) (h : ∀ b ∈ l, b ≠ c) : Lib.contains l [c] = false := by
 unfold Lib.contains
 rw [index_byte_no c l h]
 rfl
theorem cut_front (c : UInt8) (l r : List UInt8) (h : ∀ b ∈ l, b ≠ c) (hr : r = [] ∨ ∃ x, r = c :: x) : (Lib.cut (l ++ r) [c]).1 = l := by
 rcases hr with rfl | ⟨x, rfl⟩
 ·
  rw [List.append_nil]
  unfold Lib.cut
  rw [index_byte_no c l h, if_neg (by omega)]
 ·
  rw [cut_at c l x h]
theorem rs_step {s : ByteArray} {p : Nat} {t r : List UInt8} (h : rs s p = t ++ r) : rs s (p + t.length) = r := by
 unfold rs at h ⊢
 rw [← List.drop_drop, h, List.drop_left]
theorem rs_le {s : ByteArray} {p : Nat} {t r : List UInt8} (h : rs s p = t ++ r) (ht : t ≠ []) : p + t.length ≤ s.size := by
 have h2 : (rs s p).length = s.size - p := by rw [rs_len]
 have hl : 0 < t.length := List.length_pos_iff.2 ht
 rw [h, List.length_append] at h2
 omega
def NameOk (l : List UInt8) : Prop := (∃ b r, l = b :: r ∧ isLet b = true) ∧ (∀ c ∈ l, isNm c = true) ∧ l.length ≤ 100
theorem nmLen_at {l r : List UInt8} (h : NameOk l) (hr : ∀ c r', r = c :: r' → isNm c = false) : nmLen (l ++ r) = l.length := by
 obtain ⟨⟨b, t, rfl, hb⟩, h2, h3⟩ := h
 rw [List.cons_append, nmLen, if_pos hb, tw_until isNm t r (fun c hc => h2 c (List.mem_cons_of_mem _ hc)) hr]
 simp
 omega
theorem name_at {s : ByteArray} {p : Nat} {l r : List UInt8} (hs : rs s p = l ++ r) (h : NameOk l) (hr : ∀ c r', r = c :: r' → isNm c = false) : nameT s p = .ok (l, p + l.length) := by
 have h0 : 0 < l.length := by obtain ⟨⟨b, t, rfl, _⟩, _⟩ := h; simp
 have h3 := h.2.2
 unfold nameT
 rw [hs, nmLen_at h hr, if_neg (by omega), List.take_left]
theorem must_at {s : ByteArray} {p : Nat} {t r : List UInt8} (hs : rs s p = t ++ r) : mustT s p t = .ok (p + t.length) := by
 unfold mustT
 rw [hs, if_pos]
 unfold Lib.hasPrefix
 exact List.isPrefixOf_iff_prefix.2 ⟨r, rfl⟩
theorem blank_zero {l : List UInt8} (h : ∀ c r', l = c :: r' → blankB c = false) : blankN l = 0 := by
 unfold blankN
 have := tw_until blankB [] l (by simp) h
 rw [List.nil_append] at this
 rw [this]
 rfl
structure Att where
 nm : List UInt8
 raw : List UInt8
 val : List UInt8
 q : UInt8
def attTx (a : Att) : List UInt8 := 32 :: (a.nm ++ (61 :: a.q :: (a.raw ++ [a.q])))
def attV (a : Att) : S77 := ⟨⟨a.nm.toArray⟩, ⟨a.val.toArray⟩⟩
structure AttOk (a : Att) : Prop where
 nm : NameOk a.nm
 q : a.q = 34 ∨ a.q = 39
 noq : ∀ b ∈ a.raw, b ≠ a.q
 nolt : ∀ b ∈ a.raw, b ≠ 60
 un : (un a.raw 0 []).1 = a.val ∧ (un a.raw 0 []).2.2 = 0
theorem plain_at {l v : List UInt8} {b : Nat} (h : (un l 0 []).1 = v ∧ (un l 0 []).2.2 = 0) : plainT l b = .ok v := by
 unfold plainT
 rw [if_pos h.2, h.1]
theorem attr1_at {s : ByteArray} {p : Nat} {a : Att} {r : List UInt8} (hs : rs s p = (attTx a).tail ++ r) (h : AttOk a) (acc : List S77) (hl : acc.length < 20) (hn : hasName acc ⟨a.nm.toArray⟩ = false) :
  attr1T s p acc = .ok (attV a, p + (attTx a).tail.length) := by
 have e : (attTx a).tail ++ r = a.nm ++ (61 :: a.q :: (a.raw ++ a.q :: r)) := by simp [attTx]
 rw [e] at hs
 have el : (attTx a).tail.length = a.nm.length + (a.raw.length + 3) := by simp [attTx] <;> omega
 have h1 := name_at hs h.nm (by intro c r' hc; injection hc with hc; subst hc; decide)
 have hs2 := rs_step hs
 have hb2 : p3T s (p + a.nm.length) = p + a.nm.length := by
  unfold p3T
  rw [hs2, blank_zero (by intro c r' hc; injection hc with hc; subst hc; decide)]
  rfl
 have h2 : mustT s (p3T s (p + a.nm.length)) [61] = .ok (p + a.nm.length + 1) := by
  rw [hb2]
  exact must_at (t := [61]) hs2
 have hs3 : rs s (p + a.nm.length + 1) = a.q :: (a.raw ++ a.q :: r) := rs_step (t := [61]) hs2
 have hqb : blankB a.q = false := by rcases h.q with e | e <;> rw [e] <;> decide
 have hb3 : p3T s (p + a.nm.length + 1) = p + a.nm.length + 1 := by
  unfold p3T
  rw [hs3, blank_zero (by intro c r' hc; injection hc with hc; subst hc; exact hqb)]
 have ht : (rs s (p3T s (p + a.nm.length + 1))).take 1 = [a.q] := by rw [hb3, hs3]; rfl
 have h3 : ¬ badQ ((rs s (p3T s (p + a.nm.length + 1))).take 1) := by
  rw [ht]
  rintro ⟨x, y⟩
  rcases h.q with e | e
  ·
   exact y (by rw [e])
  ·
   exact x (by rw [e])
 have hs4 : rs s (p + a.nm.length + 1 + 1) = a.raw ++ a.q :: r := rs_step (t := [a.q]) hs3
 have h4 : untilT s (p3T s (p + a.nm.length + 1) + 1) ((rs s (p3T s (p + a.nm.length + 1))).take 1) = .ok (a.raw, p + a.nm.length + 1 + 1 + (a.raw.length + 1)) := by
  rw [ht, hb3]
  unfold untilT
  rw [hs4, cut_at a.q a.raw r h.noq]
  rfl
 have h5 : badV a.raw acc a.nm = false := by
  unfold badV
  rw [contains_no 60 a.raw h.nolt, hn]
  have : (acc.length == 20) = false := beq_eq_false_iff_ne.2 (by omega)
  rw [this]
  rfl
 rw [a_ok h1 h2 h3 h4 h5 (plain_at h.un), el]
 have : p + a.nm.length + 1 + 1 + (a.raw.length + 1) = p + (a.nm.length + (a.raw.length + 3)) := by omega
 rw [this]
 rfl
def attsTx (l : List Att) : List UInt8 := l.flatMap attTx
theorem attsTx_cons (a : Att) (l : List Att) : attsTx (a :: l) = attTx a ++ attsTx l := rfl
theorem hasName_no {acc : List S77} {nm : List UInt8} (h : ∀ x ∈ acc, x.f0.data.toList ≠ nm) : hasName acc ⟨nm.toArray⟩ = false := by
 unfold hasName
 rw [List.any_eq_false]
 intro x hx he
 apply h x hx
 have := beq_iff_eq.1 he
 rw [Lib.toList_data, Lib.toList_data] at this
 exact this
def EndOk (b : Nat) (r : List UInt8) : Prop := ∃ bl t, r = bl ++ t ∧ bl.length = b ∧ (∀ c ∈ bl, blankB c = true) ∧ (∀ c t', t = c :: t' → blankB c = false) ∧ headLet t = false
theorem attrs_at {s : ByteArray} : ∀ (l : List Att) (f p : Nat) (acc : List S77) (b : Nat) (r : List UInt8), rs s p = attsTx l ++ r → EndOk b r → (∀ a ∈ l, AttOk a) → s.size < p + f → acc.length + l.length ≤ 20 → (l.map Att.nm).Nodup → (∀ a ∈ l, ∀ x ∈ acc, x.f0.data.toList ≠ a.nm) → attrsT s f p acc = .ok (acc ++ l.map attV, p + (attsTx l).length + b)
 | l, 0, p, acc, b, r, hs, he, ho, hf, hl, hn, ha => by
  have hn0 : rs s p = [] := by
   apply List.eq_nil_of_length_eq_zero
   rw [rs_len]
   omega
  rw [hn0] at hs
  have h2 := List.append_eq_nil_iff.1 hs.symm
  cases l with
  | cons a l =>
   have := h2.1
   rw [attsTx_cons] at this
   simp [attTx] at this
  | nil =>
   obtain ⟨bl, t, hr, hb, _⟩ := he
   have h3 := List.append_eq_nil_iff.1 (hr.symm.trans h2.2)
   rw [h3.1] at hb
   subst hb
   simp [attrsT, attsTx]
 | [], f + 1, p, acc, b, r, hs, he, ho, hf, hl, hn, ha => by
  obtain ⟨bl, t, rfl, hb, h1, h2, h3⟩ := he
  have hs' : rs s p = bl ++ t := by rw [hs]; rfl
  have hbn : blankN (rs s p) = b := by
   unfold blankN
   rw [hs', tw_until blankB bl t h1 h2, hb]
  simp only [attrsT]
  unfold p3T
  rw [hbn]
  have hs2 : rs s (p + b) = t := by rw [← hb]; exact rs_step hs'
  rw [hs2, h3, Bool.and_false, if_neg (by simp)]
  simp [attsTx]
 | a :: l, f + 1, p, acc, b, r, hs, he, ho, hf, hl, hn, ha => by
  have hs' : rs s p = [32] ++ ((attTx a).tail ++ (attsTx l ++ r)) := by
   rw [hs, attsTx_cons, List.append_assoc]
   rfl
  have hao := ho a (by simp)
  obtain ⟨⟨c, t, hc1, hc2⟩, _, _⟩ := hao.nm
  have hcb : blankB c = false := by
   have : ∀ n : Nat, n < 256 → isLet (UInt8.ofNat n) = true → blankB (UInt8.ofNat n) = false := by decide +kernel
   have := this c.toNat c.toNat_lt
   rw [show UInt8.ofNat c.toNat = c by simp] at this
   exact this hc2
  have htl : (attTx a).tail = c :: (t ++ (61 :: a.q :: (a.raw ++ [a.q]))) := by simp [attTx, hc1]
  have hbn : blankN (rs s p) = 1 := by
   unfold blankN
   rw [hs', tw_until blankB [32] _ (by decide) (by intro x r' hx; rw [htl, List.cons_append] at hx; injection hx with hx; subst hx; exact hcb)]
   rfl
  have hs2 : rs s (p + 1) = (attTx a).tail ++ (attsTx l ++ r) := rs_step (t := [32]) hs'
  have hhd : headLet (rs s (p + 1)) = true := by rw [hs2, htl]; exact hc2
  have hnm : hasName acc ⟨a.nm.toArray⟩ = false := hasName_no (ha a (by simp))
  simp only [List.length_cons] at hl
  have h1 := attr1_at hs2 hao acc (by omega) hnm
  have hlen : (attTx a).length = (attTx a).tail.length + 1 := by simp [attTx]
  simp only [attrsT]
  unfold p3T
  rw [hbn, hhd]
  rw [show (decide (0 < 1) && true) = true from rfl, if_pos rfl, h1]
  simp only
  have hs3 : rs s (p + 1 + (attTx a).tail.length) = attsTx l ++ r := rs_step hs2
  rw [List.map_cons, List.nodup_cons] at hn
  rw [attrs_at l f (p + 1 + (attTx a).tail.length) (acc ++ [attV a]) b r hs3 he (fun x hx => ho x (List.mem_cons_of_mem _ hx)) (by omega) (by simp; omega) hn.2 ?_]
  ·
   rw [attsTx_cons, List.length_append, hlen, List.map_cons, List.append_assoc]
   have : p + 1 + (attTx a).tail.length + (attsTx l).length + b = p + ((attTx a).tail.length + 1 + (attsTx l).length) + b := by omega
   rw [this]
   rfl
  ·
   intro x hx y hy
   rcases List.mem_append.1 hy with hy | hy
   ·
    exact ha x (List.mem_cons_of_mem _ hx) y hy
   ·
    rw [List.mem_singleton.1 hy]
    show a.nm ≠ x.nm
    intro e
    exact hn.1 (List.mem_map.2 ⟨x, hx, e.symm⟩)
theorem hp_one (c b : UInt8) (l t : List UInt8) : Lib.hasPrefix (b :: l) (c :: t) = (c == b && Lib.hasPrefix l t) := rfl
theorem formI_close (r : List UInt8) : formI (60 :: 47 :: r) = some 2 := by
 unfold formI
 simp [hp_one, Lib.hasPrefix]
theorem formI_open (b : UInt8) (r : List UInt8) (h : isLet b = true) : formI (60 :: b :: r) = some 3 := by
 have h1 : ((33 : UInt8) == b) = false := by
  rw [beq_eq_false_iff_ne]
  intro e
  subst e
  exact absurd h (by decide)
 have h2 : ((47 : UInt8) == b) = false := by
  rw [beq_eq_false_iff_ne]
  intro e
  subst e
  exact absurd h (by decide)
 have n1 : ¬ (33 : UInt8) = b := beq_eq_false_iff_ne.1 h1
 have n2 : ¬ (47 : UInt8) = b := beq_eq_false_iff_ne.1 h2
 unfold formI
 simp [hp_one, n1, n2, Lib.hasPrefix]
theorem formI_text (b : UInt8) (r : List UInt8) (h : b ≠ 60) : formI (b :: r) = none := by
 have h1 : ((60 : UInt8) == b) = false := by
  rw [beq_eq_false_iff_ne]
  exact fun e => h e.symm
 unfold formI
 simp [hp_one, h1]
theorem formI_rem (r : List UInt8) : formI (60 :: 33 :: 45 :: 45 :: r) = some 0 := by
 unfold formI
 simp [hp_one, Lib.hasPrefix]
theorem formI_cdata (r : List UInt8) : formI (60 :: 33 :: 91 :: 67 :: 68 :: 65 :: 84 :: 65 :: 91 :: r) = some 1 := by
 unfold formI
 simp [hp_one, Lib.hasPrefix]
theorem tk1_close {s : ByteArray} {p : Nat} {nm r : List UInt8} (hs : rs s p = (60 :: 47 :: (nm ++ [62])) ++ r) (h : NameOk nm) (xs : List S44) :
  tk1T s p xs = .ok (p + (nm.length + 3), xs ++ [⟨2, ⟨nm.toArray⟩, ⟨#[]⟩, [], false, (p : Int)⟩]) := by
 have e : rs s p = [60, 47] ++ (nm ++ (62 :: r)) := by rw [hs]; simp
 have hs2 : rs s (p + 2) = nm ++ (62 :: r) := rs_step (t := [60, 47]) e
 have h1 := name_at hs2 h (by intro c r' hc; injection hc with hc; subst hc; decide)
 have hs3 : rs s (p + 2 + nm.length) = [62] ++ r := rs_step hs2
 have hb : blankN (rs s (p + 2 + nm.length)) = 0 := blank_zero (by rw [hs3]; intro c r' hc; injection hc with hc; subst hc; decide)
 unfold tk1T
 rw [e]
 rw [show formI ([60, 47] ++ (nm ++ (62 :: r))) = some 2 from formI_close _]
 simp only
 unfold form3T
 rw [h1]
 simp only
 rw [hb, Nat.add_zero, must_at hs3]
 simp only
 rw [show p + 2 - 2 = p by omega]
 unfold putT
 rw [if_neg (by simp)]
 have : p + 2 + nm.length + ([62] : List UInt8).length = p + (nm.length + 3) := by simp; omega
 rw [this]
def endTx (self : Bool) : List UInt8 := if self then [47, 62] else [62]
theorem endOk (bl : List UInt8) (h : ∀ c ∈ bl, blankB c = true) (self : Bool) (r : List UInt8) : EndOk bl.length (bl ++ (endTx self ++ r)) :=
 ⟨bl, endTx self ++ r, rfl, rfl, h, by
  intro c t' hc
  cases self
  ·
   injection hc with hc
   subst hc
   decide
  ·
   injection hc with hc
   subst hc
   decide, by cases self <;> rfl⟩
theorem tk1_open {s : ByteArray} {p : Nat} {nm bl r : List UInt8} {l : List Att} {self : Bool} (hs : rs s p = (60 :: (nm ++ (attsTx l ++ (bl ++ endTx self)))) ++ r) (h : NameOk nm) (hb : ∀ c ∈ bl, blankB c = true) (ho : ∀ a ∈ l, AttOk a) (hl : l.length ≤ 20) (hn : (l.map Att.nm).Nodup) (xs : List S44) :
  tk1T s p xs = .ok (p + (60 :: (nm ++ (attsTx l ++ (bl ++ endTx self)))).length, xs ++ [⟨1, ⟨nm.toArray⟩, ⟨#[]⟩, l.map attV, self, (p : Int)⟩]) := by
 have e : rs s p = [60] ++ (nm ++ (attsTx l ++ (bl ++ (endTx self ++ r)))) := by rw [hs]; simp
 have hs2 : rs s (p + 1) = nm ++ (attsTx l ++ (bl ++ (endTx self ++ r))) := rs_step (t := [60]) e
 have hnb : ∀ c : UInt8, blankB c = true → isNm c = false := by
  have : ∀ n : Nat, n < 256 → blankB (UInt8.ofNat n) = true → isNm (UInt8.ofNat n) = false := by decide +kernel
  intro c hc
  have := this c.toNat c.toNat_lt
  rw [show UInt8.ofNat c.toNat = c by simp] at this
  exact this hc
 have h1 := name_at hs2 h (by
  intro c r' hc
  cases l with
  | cons a l =>
   rw [attsTx_cons] at hc
   injection hc with hc
   subst hc
   decide
  | nil =>
   cases bl with
   | cons b bl =>
    injection hc with hc
    subst hc
    exact hnb _ (hb _ (by simp))
   | nil =>
    cases self
    ·
     injection hc with hc
     subst hc
     decide
    ·
     injection hc with hc
     subst hc
     decide)
 have hs3 := rs_step hs2
 have hle : p + 1 + nm.length ≤ s.size := by
  have := rs_le (t := [60] ++ nm) (r := attsTx l ++ (bl ++ (endTx self ++ r))) (by rw [e]; simp) (by simp)
  simp at this
  omega
 have h2 := attrs_at l (s.size + 1 - (p + 1 + nm.length)) (p + 1 + nm.length) [] bl.length (bl ++ (endTx self ++ r)) hs3 (endOk bl hb self r) ho (by omega) (by simpa using hl) hn (by intro a _ x hx; cases hx)
 rw [List.nil_append] at h2
 have hs4 : rs s (p + 1 + nm.length + (attsTx l).length + bl.length) = endTx self ++ r := rs_step (rs_step hs3)
 have h3 : mustT s (selfN s (p + 1 + nm.length + (attsTx l).length + bl.length)) [62] = .ok (p + 1 + nm.length + (attsTx l).length + bl.length + (endTx self).length) := by
  unfold selfN
  rw [hs4]
  cases self
  ·
   rw [show Lib.hasPrefix (endTx false ++ r) [47, 62] = false from rfl, if_neg (by simp)]
   exact must_at (t := [62]) hs4
  ·
   rw [show Lib.hasPrefix (endTx true ++ r) [47, 62] = true from by simp [endTx, Lib.hasPrefix, List.isPrefixOf], if_pos rfl]
   have h47 : rs s (p + 1 + nm.length + (attsTx l).length + bl.length + 1) = [62] ++ r := rs_step (t := [47]) (r := [62] ++ r) hs4
   rw [must_at h47]
   rfl
 have h4 : Lib.hasPrefix (rs s (p + 1 + nm.length + (attsTx l).length + bl.length)) [47, 62] = self := by
  rw [hs4]
  cases self
  ·
   rfl
  ·
   simp [endTx, Lib.hasPrefix, List.isPrefixOf]
 unfold tk1T
 obtain ⟨⟨b, t, hb1, hb2⟩, _⟩ := h
 have hf : formI (rs s p) = some 3 := by
  rw [e, hb1]
  exact formI_open b _ hb2
 rw [hf]
 simp only
 unfold form4T
 rw [h1]
 simp only
 rw [h2]
 simp only
 rw [h3, h4]
 simp only
 rw [show p + 1 - 1 = p by omega]
 unfold putT
 rw [if_neg (by simp)]
 have : p + 1 + nm.length + (attsTx l).length + bl.length + (endTx self).length = p + (60 :: (nm ++ (attsTx l ++ (bl ++ endTx self)))).length := by simp; omega
 rw [this]
theorem tk1_text {s : ByteArray} {p : Nat} {x v r : List UInt8} (hs : rs s p = x ++ r) (hx : x ≠ []) (h : ∀ b ∈ x, b ≠ 60) (hr : r = [] ∨ ∃ y, r = 60 :: y) (hu : (un x 0 []).1 = v ∧ (un x 0 []).2.2 = 0) (xs : List S44) :
  tk1T s p xs = .ok (p + x.length, putT xs ⟨3, ⟨#[]⟩, ⟨v.toArray⟩, [], false, (p : Int)⟩) := by
 cases x with
 | nil => exact absurd rfl hx
 | cons b x =>
  unfold tk1T
  rw [show formI (rs s p) = none from by rw [hs]; exact formI_text b _ (h b (by simp))]
  simp only
  unfold textTk
  rw [hs, cut_front 60 _ r h hr, plain_at hu]
theorem tk1_rem {s : ByteArray} {p : Nat} {r : List UInt8} (hs : rs s p = [60, 33, 45, 45, 32, 120, 32, 45, 45, 62] ++ r) (xs : List S44) : tk1T s p xs = .ok (p + 10, xs) := by
 have hs2 : rs s (p + 4) = 32 :: 120 :: 32 :: 45 :: 45 :: 62 :: r := rs_step (t := [60, 33, 45, 45]) hs
 have hc : Lib.cut (32 :: 120 :: 32 :: 45 :: 45 :: 62 :: r) [45, 45, 62] = ([32, 120, 32], r, true) := by
  have : Lib.index (32 :: 120 :: 32 :: 45 :: 45 :: 62 :: r) [45, 45, 62] = 3 := by simp [Lib.index, List.isPrefixOf]
  unfold Lib.cut
  rw [this]
  rfl
 unfold tk1T
 rw [show formI (rs s p) = some 0 from by rw [hs]; exact formI_rem _]
 simp only
 unfold form1R form1T untilT
 rw [hs2, hc]
 rfl
theorem tk1_cdata {s : ByteArray} {p : Nat} {r : List UInt8} (hs : rs s p = [60, 33, 91, 67, 68, 65, 84, 65, 91, 93, 93, 62] ++ r) (xs : List S44) : tk1T s p xs = .ok (p + 12, xs) := by
 have hs2 : rs s (p + 9) = 93 :: 93 :: 62 :: r := rs_step (t := [60, 33, 91, 67, 68, 65, 84, 65, 91]) hs
 have hc : Lib.cut (93 :: 93 :: 62 :: r) [93, 93, 62] = ([], r, true) := by
  have : Lib.index (93 :: 93 :: 62 :: r) [93, 93, 62] = 0 := by simp [Lib.index, List.isPrefixOf]
  unfold Lib.cut
  rw [this]
  rfl
 unfold tk1T
 rw [show formI (rs s p) = some 1 from by rw [hs]; exact formI_cdata _]
 simp only
 unfold form2T untilT
 rw [hs2, hc]
 rfl
/-! Runs of tokens. -/
def zp (t : S44) : S44 := { t with f5 := 0 }
def Run (s : ByteArray) (p q : Nat) (l : List S44) : Prop :=
 p ≤ q ∧ q ≤ s.size ∧ ∀ (f : Nat) (xs : List S44), s.size < p + f → ∃ (f' : Nat) (m : List S44), s.size < q + f' ∧ m.map zp = l ∧ tkT s f p xs = tkT s f' q (xs ++ m)
theorem Run.refl {s : ByteArray} {p : Nat} (h : p ≤ s.size) : Run s p p [] := ⟨Nat.le_refl _, h, fun f xs hf => ⟨f, [], hf, rfl, by rw [List.append_nil]⟩⟩
theorem Run.trans {s : ByteArray} {p q r : Nat} {l m : List S44} (h : Run s p q l) (k : Run s q r m) : Run s p r (l ++ m) := by
 refine ⟨Nat.le_trans h.1 k.1, k.2.1, fun f xs hf => ?_⟩
 obtain ⟨f1, m1, h1, h2, h3⟩ := h.2.2 f xs hf
 obtain ⟨f2, m2, k1, k2, k3⟩ := k.2.2 f1 (xs ++ m1) h1
 refine ⟨f2, m1 ++ m2, k1, by rw [List.map_append, h2, k2], ?_⟩
 rw [h3, k3, List.append_assoc]
theorem Run.one {s : ByteArray} {p q : Nat} {l : List S44} (hp : p < q) (hq : q ≤ s.size) (m : List S44) (hm : m.map zp = l) (h : ∀ xs, tk1T s p xs = .ok (q, xs ++ m)) : Run s p q l := by
 refine ⟨by omega, hq, fun f xs hf => ?_⟩
 cases f with
 | zero => omega
 | succ f =>
  refine ⟨f, m, by omega, hm, ?_⟩
  rw [tkT, if_pos (by omega), h xs]
theorem Run.all {s : ByteArray} {l : List S44} {p : Nat} (h : Run s p s.size l) : ∃ m, m.map zp = l ∧ tkT s (s.size + 1) p [] = .ok m := by
 obtain ⟨f, m, h1, h2, h3⟩ := h.2.2 (s.size + 1) [] (by omega)
 refine ⟨m, h2, ?_⟩
 rw [h3, List.nil_append]
 cases f with
 | zero => rfl
 | succ f => rw [tkT, if_neg (by omega)]
theorem run_open {s : ByteArray} {p : Nat} {nm bl r : List UInt8} {l : List Att} {self : Bool} (hs : rs s p = (60 :: (nm ++ (attsTx l ++ (bl ++ endTx self)))) ++ r) (h : NameOk nm) (hb : ∀ c ∈ bl, blankB c = true) (ho : ∀ a ∈ l, AttOk a) (hl : l.length ≤ 20) (hn : (l.map Att.nm).Nodup) :
  Run s p (p + (60 :: (nm ++ (attsTx l ++ (bl ++ endTx self)))).length) [⟨1, ⟨nm.toArray⟩, ⟨#[]⟩, l.map attV, self, 0⟩] :=
 Run.one (by simp) (rs_le hs (by simp)) [⟨1, ⟨nm.toArray⟩, ⟨#[]⟩, l.map attV, self, (p : Int)⟩] rfl (tk1_open hs h hb ho hl hn)
theorem run_close {s : ByteArray} {p : Nat} {nm r : List UInt8} (hs : rs s p = (60 :: 47 :: (nm ++ [62])) ++ r) (h : NameOk nm) : Run s p (p + (nm.length + 3)) [⟨2, ⟨nm.toArray⟩, ⟨#[]⟩, [], false, 0⟩] :=
 Run.one (by omega) (by have := rs_le hs (by simp); simp at this; omega) [⟨2, ⟨nm.toArray⟩, ⟨#[]⟩, [], false, (p : Int)⟩] rfl (tk1_close hs h)
def textZ (v : List UInt8) : List S44 := if v = [] then [] else [⟨3, ⟨#[]⟩, ⟨v.toArray⟩, [], false, 0⟩]
theorem run_text {s : ByteArray} {p : Nat} {x v r : List UInt8} (hs : rs s p = x ++ r) (h : ∀ b ∈ x, b ≠ 60) (hp : p ≤ s.size) (hr : r = [] ∨ ∃ y, r = 60 :: y) (hu : (un x 0 []).1 = v ∧ (un x 0 []).2.2 = 0) : Run s p (p + x.length) (textZ v) := by
 by_cases hx : x = []
 ·
  subst hx
  rw [un_nil] at hu
  rw [← hu.1]
  exact Run.refl hp
 ·
  have hl : 0 < x.length := List.length_pos_iff.2 hx
  refine Run.one (by omega) (rs_le hs hx) (if v = [] then [] else [⟨3, ⟨#[]⟩, ⟨v.toArray⟩, [], false, (p : Int)⟩]) ?_ ?_
  ·
   unfold textZ
   split <;> rfl
  ·
   intro xs
   rw [tk1_text hs hx h hr hu]
   unfold putT
   by_cases hv : v = []
   ·
    rw [if_pos hv, if_pos ⟨rfl, hv⟩, List.append_nil]
   ·
    rw [if_neg hv, if_neg (fun h => hv h.2)]
theorem run_rem {s : ByteArray} {p : Nat} {r : List UInt8} (hs : rs s p = [60, 33, 45, 45, 32, 120, 32, 45, 45, 62] ++ r) : Run s p (p + 10) [] :=
 Run.one (by omega) (rs_le hs (by simp)) [] rfl fun xs => by rw [tk1_rem hs, List.append_nil]
theorem run_cdata {s : ByteArray} {p : Nat} {r : List UInt8} (hs : rs s p = [60, 33, 91, 67, 68, 65, 84, 65, 91, 93, 93, 62] ++ r) : Run s p (p + 12) [] :=
 Run.one (by omega) (rs_le hs (by simp)) [] rfl fun xs => by rw [tk1_cdata hs, List.append_nil]
end Go.Proofs.YtknfpggiigncpaaGreatDoor.C
