/- tree.split, walked by hand. -/
import Derived.Test.YtknfpggiigncpaaGreatDoorProg
import Derived.Below
import Derived.Deep.Draws
import Derived.Deep.AppendLies
import Derived.Maps.AppendAt
import Derived.OwnWalk
import Derived.Laws.BytesArg
import Derived.Laws.MakeOwn
import Derived.Laws.OwnMore
import Derived.Deep.OwnRows
import Derived.Tactics
import Derived.Lib.ConvBytes
import Derived.Laws.Slices
import Derived.WalkKit
import Derived.KernelRfl
import Derived.RowKit3
import Derived.Deep.LoopGhost
import Derived.Deep.QuietTactic
import Derived.BigQuiet
import Derived.WideLaws
import Derived.Deep.DeepCutAuto
import Derived.Deep.CutBlock
import Derived.Deep.RegionHeld3
import Derived.Laws.Rows
import Derived.Lib.AppendStr
import Derived.ArgAppend
import Derived.Laws.IdiomCopy
import Derived.OrdersHeld
import Derived.Laws.BitsLemmas
import Derived.RowKit
import Derived.Test.YtknfpggiigncpaaGreatDoorWWords
import Derived.Test.YtknfpggiigncpaaGreatDoorWLast
import Derived.Test.YtknfpggiigncpaaGreatDoorWTab
import Derived.Test.YtknfpggiigncpaaGreatDoorWMore
import Derived.Laws.StructEq
import Derived.Test.YtknfpggiigncpaaGreatDoorAx1
import Derived.Test.YtknfpggiigncpaaGreatDoorXCheck
import Derived.Test.YtknfpggiigncpaaGreatDoorXRune
import Derived.Test.YtknfpggiigncpaaGreatDoorXUnesc
import Derived.Test.YtknfpggiigncpaaGreatDoorXOnce
import Derived.Test.YtknfpggiigncpaaGreatDoorOt1
import Derived.Lib.SmallJoins
import Derived.Test.YtknfpggiigncpaaGreatDoorPw1
import Derived.Test.YtknfpggiigncpaaGreatDoorXTok10
set_option linter.unusedVariables false
set_option linter.unusedSimpArgs false
section
namespace Go.Proofs.YtknfpggiigncpaaGreatDoor.P
open Go.RowKit YtknfpggiigncpaaGreatDoorW.PrintWords YtknfpggiigncpaaGreatDoorW.PrintLast YtknfpggiigncpaaGreatDoorW.PrintMore
attribute [local go_sem] max2_int min2_int max_two min_two max_three min_three max_four min_four
end Go.Proofs.YtknfpggiigncpaaGreatDoor.P
end
section
namespace Go.Proofs.YtknfpggiigncpaaGreatDoor.P
open Go.RowKit YtknfpggiigncpaaGreatDoorW.PrintWords YtknfpggiigncpaaGreatDoorW.PrintLast YtknfpggiigncpaaGreatDoorW.PrintMore
attribute [local go_sem] max2_int min2_int max_two min_two max_three min_three max_four min_four
/-! ### remitterlaw08_wakes: function 26 -/
/-! ### remitterlaw08_TextBack: function 7 -/
end Go.Proofs.YtknfpggiigncpaaGreatDoor.P
end
section
namespace Go.Proofs.YtknfpggiigncpaaGreatDoor.P
open Go.RowKit YtknfpggiigncpaaGreatDoorW.PrintWords
theorem un_byte (b : UInt8) (r : List UInt8) (pos : Nat) (out : List UInt8) : un (escByte b ++ r) pos out = un r (pos + (escByte b).length) (out ++ [b]) := by
 by_cases he : escByte b = [b]
 ·
  have hb : b ≠ 38 := fun h => by subst h; exact absurd he (by decide)
  rw [he]
  exact un_plain b r pos out hb
 ·
  have hr : (repOf b).isSome = true := by
   cases hr : repOf b with
   | none => rw [escByte_rep, hr] at he; exact absurd rfl he
   | some n => rfl
  have hm := rep_keys8 b hr
  have key : ∀ b ∈ keys8, ∃ i, escByte b = 38 :: (i ++ [59]) ∧ (∀ c ∈ i, c ≠ 59) ∧ i.length + 1 ≤ 13 ∧ refV i = some b.toNat ∧ Lib.encodeRune (b.toNat : Int) = [b] := by
   intro b hb
   simp only [keys8, List.mem_cons, List.not_mem_nil, or_false] at hb
   rcases hb with rfl | rfl | rfl | rfl | rfl | rfl | rfl | rfl
   ·
    exact ⟨[35, 120, 68], rfl, by decide, by decide, by decide, by decide⟩
   ·
    exact ⟨[35, 120, 65], rfl, by decide, by decide, by decide, by decide⟩
   ·
    exact ⟨[35, 120, 57], rfl, by decide, by decide, by decide, by decide⟩
   ·
    exact ⟨[97, 112, 111, 115], rfl, by decide, by decide, by decide, by decide⟩
   ·
    exact ⟨[113, 117, 111, 116], rfl, by decide, by decide, by decide, by decide⟩
   ·
    exact ⟨[103, 116], rfl, by decide, by decide, by decide, by decide⟩
   ·
    exact ⟨[108, 116], rfl, by decide, by decide, by decide, by decide⟩
   ·
    exact ⟨[97, 109, 112], rfl, by decide, by decide, by decide, by decide⟩
  obtain ⟨i, h1, h2, h3, h4, h5⟩ := key b hm
  have hs : ∀ (i q : List UInt8) (n : Nat), (∀ c ∈ i, c ≠ 59) → i.length + 1 ≤ n → semi ((i ++ 59 :: q).take n) = some i := by
   intro i
   induction i with
   | nil =>
    intro q n _ hn
    obtain ⟨n, rfl⟩ : ∃ m, n = m + 1 := ⟨n - 1, by simp at hn; omega⟩
    simp [semi]
   | cons c i ih =>
    intro q n hc hn
    obtain ⟨n, rfl⟩ : ∃ m, n = m + 1 := ⟨n - 1, by simp at hn; omega⟩
    rw [List.cons_append, List.take_succ_cons]
    simp only [semi]
    rw [if_neg (hc c (by simp)), ih q n (fun x hx => hc x (List.mem_cons_of_mem _ hx)) (by simp at hn; omega)]
    rfl
  rw [h1, List.cons_append, List.append_assoc, List.singleton_append, un_ref _ pos out i b.toNat (hs i r 13 h2 h3) h4, h5]
  congr 1
  ·
   rw [show i ++ 59 :: r = (i ++ [59]) ++ r by simp, show i.length + 1 = (i ++ [59]).length by simp, List.drop_left]
  ·
   simp
   omega
theorem un_escL : ∀ (l r : List UInt8) (pos : Nat) (out : List UInt8), un (escL l ++ r) pos out = un r (pos + (escL l).length) (out ++ l)
 | [], r, pos, out => by simp [escL]
 | b :: l, r, pos, out => by
  rw [escL_cons, List.append_assoc, un_byte, un_escL l r]
  congr 1
  ·
   simp; omega
  ·
   simp
theorem escL_clean : ∀ (l : List UInt8), ∀ c ∈ escL l, c ≠ 60 ∧ c ≠ 62 ∧ c ≠ 34 ∧ c ≠ 39 ∧ c ≠ 9 ∧ c ≠ 10 ∧ c ≠ 13
 | [], c, h => by simp [escL] at h
 | b :: l, c, h => by
  rw [escL_cons, List.mem_append] at h
  rcases h with h | h
  ·
   revert h
   unfold escByte
   repeat' split
   all_goals
    intro h
    simp only [List.mem_cons, List.not_mem_nil, or_false] at h
    first
     | (rcases h with rfl | rfl | rfl | rfl | rfl | rfl <;> decide)
     | (rcases h with rfl | rfl | rfl | rfl | rfl <;> decide)
     | (rcases h with rfl | rfl | rfl | rfl <;> decide)
     | (subst h; refine ⟨?_, ?_, ?_, ?_, ?_, ?_, ?_⟩ <;> assumption)
  ·
   exact escL_clean l c h
theorem escape_f (s : ByteArray) (h : s.size * 6 ≤ 140737488355328) : text_Escape.f s = some ⟨(escL s.data.toList).toArray⟩ := by
 unfold text_Escape.f
 rw [if_pos h]
end Go.Proofs.YtknfpggiigncpaaGreatDoor.P
end
section
namespace Go.Proofs.YtknfpggiigncpaaGreatDoor.G
open Go.RowKit P E C
structure Sty where
 pre : List UInt8
 q : UInt8
 bl : List UInt8
 gap : List UInt8
 rem : List UInt8
 cd : List UInt8
 sc : Bool
def remL : List UInt8 := [60, 33, 45, 45, 32, 120, 32, 45, 45, 62]
def cdL : List UInt8 := [60, 33, 91, 67, 68, 65, 84, 65, 91, 93, 93, 62]
structure StyOk (st : Sty) : Prop where
 pre : st.pre = [] ∨ st.pre = [112, 58]
 q : st.q = 34 ∨ st.q = 39
 bl : ∀ c ∈ st.bl, blankB c = true
 gap : ∀ c ∈ st.gap, blankB c = true
 rem : st.rem = [] ∨ st.rem = remL
 cd : st.cd = [] ∨ st.cd = cdL
def attOf (st : Sty) (k : S24) : Att := ⟨atL k, escL k.f1.data.toList, k.f1.data.toList, st.q⟩
def noEl (q : List S24) : Bool := (q.dropWhile attrB).isEmpty
def selfT (st : Sty) (b : ByteArray) (q : List S24) : Bool := st.sc && noEl q && b.data.toList.isEmpty
def nmT (st : Sty) (a : ByteArray) : List UInt8 := st.pre ++ a.data.toList
def attsT' (st : Sty) (ra : List Att) (q : List S24) : List Att := ra ++ (q.takeWhile attrB).map (attOf st)
def openTx (st : Sty) (ra : List Att) (a : ByteArray) (q : List S24) (self : Bool) : List UInt8 := 60 :: (nmT st a ++ (attsTx (attsT' st ra q) ++ (st.bl ++ endTx self)))
def closeTx (st : Sty) (a : ByteArray) : List UInt8 := 60 :: 47 :: (nmT st a ++ [62])
def saidTx (st : Sty) (b : ByteArray) (q : List S24) : List UInt8 := if noEl q = true then escL b.data.toList ++ st.cd else []
def tagG (st : Sty) (ra : List Att) (a b : ByteArray) (q : List S24) (inn : List UInt8) : List UInt8 :=
 if selfT st b q = true then openTx st ra a q true
 else openTx st ra a q false ++ (st.rem ++ (saidTx st b q ++ (inn ++ closeTx st a)))
def kidsG (st : Sty) : List S24 → List UInt8
 | [] => []
 | ⟨a, b, q⟩ :: l => (if attrB ⟨a, b, q⟩ = true then [] else tagG st [] a b q (kidsG st q) ++ st.gap) ++ kidsG st l
def elG (st : Sty) (ra : List Att) (v : S24) : List UInt8 := tagG st ra v.f0 v.f1 v.f2 (kidsG st v.f2)
def openZ (st : Sty) (ra : List Att) (a : ByteArray) (q : List S24) (self : Bool) : S44 := ⟨1, ⟨(nmT st a).toArray⟩, ⟨#[]⟩, (attsT' st ra q).map attV, self, 0⟩
def closeZ (st : Sty) (a : ByteArray) : S44 := ⟨2, ⟨(nmT st a).toArray⟩, ⟨#[]⟩, [], false, 0⟩
def saidZ (b : ByteArray) (q : List S24) : List S44 := if noEl q = true then textZ b.data.toList else []
def tagZ (st : Sty) (ra : List Att) (a b : ByteArray) (q : List S24) (inn : List S44) : List S44 :=
 if selfT st b q = true then [openZ st ra a q true]
 else [openZ st ra a q false] ++ (saidZ b q ++ (inn ++ [closeZ st a]))
def kidsZ (st : Sty) : List S24 → List S44
 | [] => []
 | ⟨a, b, q⟩ :: l => (if attrB ⟨a, b, q⟩ = true then [] else tagZ st [] a b q (kidsZ st q) ++ textZ st.gap) ++ kidsZ st l
def elZ (st : Sty) (ra : List Att) (v : S24) : List S44 := tagZ st ra v.f0 v.f1 v.f2 (kidsZ st v.f2)
structure AtOk (k : S24) : Prop where
 nm : NameOk (atL k)
 col : ∀ c ∈ atL k, c ≠ 58
 xml : atL k ≠ [120, 109, 108, 110, 115]
 kids : k.f2 = []
 good : goodB k.f1.data.toList = true
def okG (st : Sty) : Nat → S24 → Prop
 | 0, _ => False
 | d + 1, v => NameOk (nmT st v.f0) ∧ (∀ c ∈ v.f0.data.toList, c ≠ 58) ∧ v.f0.data.toList ≠ [] ∧ goodB v.f1.data.toList = true ∧ (∀ k ∈ v.f2.takeWhile attrB, AtOk k) ∧ ((v.f2.takeWhile attrB).map atL).Nodup ∧ (v.f2.takeWhile attrB).length ≤ 20
  ∧ (∀ k ∈ v.f2.dropWhile attrB, attrB k = false ∧ okG st d k) ∧ (noEl v.f2 = false → v.f1.data.toList = [])
theorem att_ok {st : Sty} (hst : StyOk st) {k : S24} (h : AtOk k) : AttOk (attOf st k) := by
 refine ⟨h.nm, hst.q, ?_, ?_, ?_⟩
 ·
  intro b hb e
  have := escL_clean k.f1.data.toList b hb
  rcases hst.q with e2 | e2
  ·
   exact this.2.2.1 (e.trans e2)
  ·
   exact this.2.2.2.1 (e.trans e2)
 ·
  intro b hb
  exact (escL_clean k.f1.data.toList b hb).1
 ·
  have := un_escL k.f1.data.toList [] 0 []
  rw [List.append_nil, un_nil] at this
  show (un (escL k.f1.data.toList) 0 []).1 = k.f1.data.toList ∧ (un (escL k.f1.data.toList) 0 []).2.2 = 0
  rw [this]
  exact ⟨rfl, rfl⟩
theorem kidsG_nil (st : Sty) : kidsG st [] = [] := by rw [kidsG]
theorem kidsZ_nil (st : Sty) : kidsZ st [] = [] := by rw [kidsZ]
theorem kidsG_app (st : Sty) : ∀ (l m : List S24), kidsG st (l ++ m) = kidsG st l ++ kidsG st m
 | [], m => by rw [kidsG_nil]; rfl
 | ⟨a, b, q⟩ :: l, m => by
  rw [List.cons_append, kidsG, kidsG, kidsG_app st l m, List.append_assoc]
theorem kidsZ_app (st : Sty) : ∀ (l m : List S24), kidsZ st (l ++ m) = kidsZ st l ++ kidsZ st m
 | [], m => by rw [kidsZ_nil]; rfl
 | ⟨a, b, q⟩ :: l, m => by
  rw [List.cons_append, kidsZ, kidsZ, kidsZ_app st l m, List.append_assoc]
theorem kidsG_atts (st : Sty) : ∀ (l : List S24), (∀ k ∈ l, attrB k = true) → kidsG st l = []
 | [], _ => kidsG_nil st
 | ⟨a, b, q⟩ :: l, h => by
  rw [kidsG, if_pos (h _ (by simp)), kidsG_atts st l (fun k hk => h k (List.mem_cons_of_mem _ hk))]
  rfl
theorem kidsZ_atts (st : Sty) : ∀ (l : List S24), (∀ k ∈ l, attrB k = true) → kidsZ st l = []
 | [], _ => kidsZ_nil st
 | ⟨a, b, q⟩ :: l, h => by
  rw [kidsZ, if_pos (h _ (by simp)), kidsZ_atts st l (fun k hk => h k (List.mem_cons_of_mem _ hk))]
  rfl
theorem kidsG_els (st : Sty) (q : List S24) : kidsG st q = kidsG st (q.dropWhile attrB) := by
 have := kidsG_app st (q.takeWhile attrB) (q.dropWhile attrB)
 rw [List.takeWhile_append_dropWhile, kidsG_atts st _ (tw_all q)] at this
 exact this
theorem kidsZ_els (st : Sty) (q : List S24) : kidsZ st q = kidsZ st (q.dropWhile attrB) := by
 have := kidsZ_app st (q.takeWhile attrB) (q.dropWhile attrB)
 rw [List.takeWhile_append_dropWhile, kidsZ_atts st _ (tw_all q)] at this
 exact this
theorem kidsG_cons (st : Sty) (v : S24) (l : List S24) (h : attrB v = false) : kidsG st (v :: l) = elG st [] v ++ (st.gap ++ kidsG st l) := by
 obtain ⟨a, b, q⟩ := v
 rw [kidsG, if_neg (by rw [h]; simp), List.append_assoc]
 rfl
theorem kidsZ_cons (st : Sty) (v : S24) (l : List S24) (h : attrB v = false) : kidsZ st (v :: l) = elZ st [] v ++ (textZ st.gap ++ kidsZ st l) := by
 obtain ⟨a, b, q⟩ := v
 rw [kidsZ, if_neg (by rw [h]; simp), List.append_assoc]
 rfl
def Lt (l : List UInt8) : Prop := ∃ y, l = 60 :: y
theorem lt_app {l m : List UInt8} (h : Lt l) : Lt (l ++ m) := by obtain ⟨y, rfl⟩ := h; exact ⟨y ++ m, rfl⟩
theorem lt_open (st : Sty) (ra : List Att) (a : ByteArray) (q : List S24) (self : Bool) : Lt (openTx st ra a q self) := ⟨_, rfl⟩
theorem lt_close (st : Sty) (a : ByteArray) : Lt (closeTx st a) := ⟨_, rfl⟩
theorem lt_el (st : Sty) (ra : List Att) (v : S24) : Lt (elG st ra v) := by
 unfold elG tagG
 split
 ·
  exact lt_open _ _ _ _ _
 ·
  exact lt_app (lt_open _ _ _ _ _)
theorem lt_kids (st : Sty) (l : List S24) (h : ∀ k ∈ l, attrB k = false) {r : List UInt8} (hr : Lt r) : Lt (kidsG st l ++ r) := by
 cases l with
 | nil => rw [kidsG_nil]; exact hr
 | cons v l =>
  rw [kidsG_cons st v l (h v (by simp)), List.append_assoc]
  exact lt_app (lt_el st [] v)
theorem blank_un {l : List UInt8} (h : ∀ c ∈ l, blankB c = true) : (∀ c ∈ l, c ≠ 60) ∧ (un l 0 []).1 = l ∧ (un l 0 []).2.2 = 0 := by
 have h1 : ∀ c : UInt8, blankB c = true → c ≠ 60 ∧ c ≠ 38 := by
  have : ∀ n : Nat, n < 256 → blankB (UInt8.ofNat n) = true → UInt8.ofNat n ≠ 60 ∧ UInt8.ofNat n ≠ 38 := by decide +kernel
  intro c hc
  have := this c.toNat c.toNat_lt
  rw [show UInt8.ofNat c.toNat = c by simp] at this
  exact this hc
 refine ⟨fun c hc => (h1 c (h c hc)).1, ?_⟩
 rw [un_all l 0 [] (fun c hc => (h1 c (h c hc)).2)]
 exact ⟨rfl, rfl⟩
theorem run_opt_rem {st : Sty} (hst : StyOk st) {s : ByteArray} {p : Nat} {r : List UInt8} (hp : p ≤ s.size) (hs : rs s p = st.rem ++ r) : Run s p (p + st.rem.length) [] := by
 rcases hst.rem with e | e
 ·
  rw [e]; exact Run.refl hp
 ·
  rw [e] at hs ⊢; exact run_rem hs
theorem run_opt_cd {st : Sty} (hst : StyOk st) {s : ByteArray} {p : Nat} {r : List UInt8} (hp : p ≤ s.size) (hs : rs s p = st.cd ++ r) : Run s p (p + st.cd.length) [] := by
 rcases hst.cd with e | e
 ·
  rw [e]; exact Run.refl hp
 ·
  rw [e] at hs ⊢; exact run_cdata hs
theorem lt_cd {st : Sty} (hst : StyOk st) {r : List UInt8} (hr : Lt r) : Lt (st.cd ++ r) := by
 rcases hst.cd with e | e
 ·
  rw [e]; exact hr
 ·
  rw [e]; exact ⟨_, rfl⟩
theorem run_cast {s : ByteArray} {p q q' : Nat} {l l' : List S44} (h : Run s p q l) (e : q = q') (e2 : l = l') : Run s p q' l' := by subst e; subst e2; exact h
theorem atts_fit {st : Sty} (hst : StyOk st) {ra : List Att} {v : S24} {d : Nat} (hv : okG st (d + 1) v) (hra : ∀ a ∈ ra, AttOk a) (hn : ((attsT' st ra v.f2).map Att.nm).Nodup) (hl : (attsT' st ra v.f2).length ≤ 20) :
  (∀ a ∈ attsT' st ra v.f2, AttOk a) := by
 intro a ha
 rcases List.mem_append.1 ha with ha | ha
 ·
  exact hra a ha
 ·
  obtain ⟨k, hk, rfl⟩ := List.mem_map.1 ha
  exact att_ok hst (hv.2.2.2.2.1 k hk)
theorem nms_eq (st : Sty) (l : List S24) : (l.map (attOf st)).map Att.nm = l.map atL := by rw [List.map_map]; rfl
theorem run_tag {st : Sty} (hst : StyOk st) {d : Nat} (kids : ∀ (l : List S24), (∀ k ∈ l, attrB k = false ∧ okG st d k) → ∀ (s : ByteArray) (p : Nat) (r : List UInt8), p ≤ s.size → Lt r → rs s p = kidsG st l ++ r → Run s p (p + (kidsG st l).length) (kidsZ st l))
  {ra : List Att} {v : S24} (hv : okG st (d + 1) v) (hra : ∀ a ∈ ra, AttOk a) (hn : ((attsT' st ra v.f2).map Att.nm).Nodup) (hl : (attsT' st ra v.f2).length ≤ 20) {s : ByteArray} {p : Nat} {r : List UInt8} (hs : rs s p = elG st ra v ++ r) :
  Run s p (p + (elG st ra v).length) (elZ st ra v) := by
 have hao := atts_fit hst hv hra hn hl
 unfold elG tagG at hs ⊢
 unfold elZ tagZ
 by_cases hself : selfT st v.f1 v.f2 = true
 ·
  rw [if_pos hself] at hs ⊢
  rw [if_pos hself]
  exact run_open hs hv.1 hst.bl hao hl hn
 ·
  rw [if_neg hself] at hs ⊢
  rw [if_neg hself]
  rw [List.append_assoc] at hs
  have a := run_open (self := false) hs hv.1 hst.bl hao hl hn
  have h1 := rs_step hs
  rw [List.append_assoc] at h1
  have b := run_opt_rem hst a.2.1 h1
  have h2 := rs_step h1
  rw [List.append_assoc] at h2
  have c : Run s (p + (openTx st ra v.f0 v.f2 false).length + st.rem.length) (p + (openTx st ra v.f0 v.f2 false).length + st.rem.length + (saidTx st v.f1 v.f2).length) (saidZ v.f1 v.f2) := by
   unfold saidTx at h2 ⊢
   unfold saidZ
   by_cases hno : noEl v.f2 = true
   ·
    rw [if_pos hno] at h2 ⊢
    rw [if_pos hno]
    have hk : kidsG st v.f2 = [] := by
     rw [kidsG_els, List.isEmpty_iff.1 hno, kidsG_nil]
    rw [hk, List.append_assoc] at h2
    have hu := un_escL v.f1.data.toList [] 0 []
    rw [List.append_nil, un_nil] at hu
    have x := run_text (x := escL v.f1.data.toList) (v := v.f1.data.toList) h2 (fun c hc => (escL_clean _ c hc).1) b.2.1 (.inr (lt_cd hst (lt_app (lt_close st v.f0)))) (by rw [hu]; exact ⟨rfl, rfl⟩)
    have y := run_opt_cd hst x.2.1 (rs_step h2)
    exact run_cast (x.trans y) (by rw [List.length_append]; omega) (List.append_nil _)
   ·
    rw [if_neg hno] at h2 ⊢
    rw [if_neg hno]
    exact Run.refl b.2.1
  have h3 := rs_step h2
  rw [List.append_assoc] at h3
  have e : kidsG st v.f2 = kidsG st (v.f2.dropWhile attrB) := kidsG_els st v.f2
  rw [e] at h3
  have k := kids (v.f2.dropWhile attrB) hv.2.2.2.2.2.2.2.1 s _ _ c.2.1 (lt_app (lt_close st v.f0)) h3
  have h4 := rs_step h3
  have z := run_close (nm := nmT st v.f0) h4 hv.1
  refine run_cast (a.trans (b.trans (c.trans (k.trans z)))) ?_ ?_
  ·
   rw [e]
   simp only [List.length_append, closeTx, List.length_cons, List.length_nil]
   simp only [openTx, List.length_append, List.length_cons, List.length_nil]
   omega
  ·
   rw [kidsZ_els st v.f2]
   rfl
theorem run_kids {st : Sty} (hst : StyOk st) : ∀ (d : Nat) (l : List S24), (∀ k ∈ l, attrB k = false ∧ okG st d k) → ∀ (s : ByteArray) (p : Nat) (r : List UInt8), p ≤ s.size → Lt r → rs s p = kidsG st l ++ r → Run s p (p + (kidsG st l).length) (kidsZ st l)
 | 0, [], _, s, p, r, hp, hr, hs => by rw [kidsG_nil, kidsZ_nil]; exact Run.refl hp
 | 0, v :: l, h, s, p, r, hp, hr, hs => (h v (by simp)).2.elim
 | d + 1, [], _, s, p, r, hp, hr, hs => by rw [kidsG_nil, kidsZ_nil]; exact Run.refl hp
 | d + 1, v :: l, h, s, p, r, hp, hr, hs => by
  obtain ⟨h1, h2⟩ := h v (by simp)
  have hal : ∀ k ∈ l, attrB k = false := fun k hk => (h k (List.mem_cons_of_mem _ hk)).1
  rw [kidsG_cons st v l h1] at hs ⊢
  rw [kidsZ_cons st v l h1]
  rw [List.append_assoc] at hs
  have hn : ((attsT' st [] v.f2).map Att.nm).Nodup := by
   show (((v.f2.takeWhile attrB).map (attOf st)).map Att.nm).Nodup
   rw [nms_eq]
   exact h2.2.2.2.2.2.1
  have hl : (attsT' st [] v.f2).length ≤ 20 := by
   show ((v.f2.takeWhile attrB).map (attOf st)).length ≤ 20
   rw [List.length_map]
   exact h2.2.2.2.2.2.2.1
  have a := run_tag hst (run_kids hst d) h2 (by intro a ha; cases ha) hn hl hs
  have g1 := rs_step hs
  rw [List.append_assoc] at g1
  obtain ⟨b1, b2⟩ := blank_un hst.gap
  have b := run_text g1 b1 a.2.1 (.inr (lt_kids st l hal hr)) b2
  have g2 := rs_step g1
  have c := run_kids hst (d + 1) l (fun k hk => h k (List.mem_cons_of_mem _ hk)) s _ r b.2.1 hr g2
  exact run_cast (a.trans (b.trans c)) (by rw [List.length_append, List.length_append]; omega) rfl
end Go.Proofs.YtknfpggiigncpaaGreatDoor.G
end
section
namespace Go.Proofs.YtknfpggiigncpaaGreatDoor.D
open Go.RowKit P YtknfpggiigncpaaGreatDoorW.PrintLast YtknfpggiigncpaaGreatDoorW.PrintMore
open YtknfpggiigncpaaGreatDoorW.PrintWords
def splitT (l : List UInt8) : List UInt8 × List UInt8 × Bool :=
 if (Lib.cut l [58]).2.2 = true then ((Lib.cut l [58]).1, (Lib.cut l [58]).2.1, !(Lib.cut l [58]).1.isEmpty && !(Lib.cut l [58]).2.1.isEmpty && !decide (0 ≤ Lib.indexByte (Lib.cut l [58]).2.1 58)) else ([], l, true)
set_option maxHeartbeats 4000000 in
set_option maxRecDepth 100000 in
theorem split_any (s : ByteArray) (w : World) (hs : s.size < 4294967281) (hG : Glob w) :
  Calls Tryz.prog 145 #[.string s] w fun e w' => e = .returned (.tuple #[.string ⟨(splitT s.data.toList).1.toArray⟩, .string ⟨(splitT s.data.toList).2.1.toArray⟩, .bool (splitT s.data.toList).2.2]) ∧ Below w.heap.size w w' := by
 obtain ⟨m, hm⟩ := hG.maxLen
 have HC := Lib.hid (Tryz.strings_Cut s ⟨#[58]⟩ m w hs hm)
 have hp : (⟨#[58]⟩ : ByteArray).data.toList = [58] := rfl
 rw [hp] at HC
 obtain ⟨R, hR⟩ : ∃ R, splitT s.data.toList = R := ⟨_, rfl⟩
 unfold splitT at hR
 obtain ⟨C, hC⟩ : ∃ C, Lib.cut s.data.toList [58] = C := ⟨_, rfl⟩
 rw [hC] at HC hR
 obtain ⟨c0, c1, c2⟩ := C
 have HR := Lib.hid hR
 show Calls _ _ _ _ fun e w' => e = .returned (.tuple #[.string ⟨(splitT s.data.toList).1.toArray⟩, .string ⟨(splitT s.data.toList).2.1.toArray⟩, .bool (splitT s.data.toList).2.2]) ∧ Below w.heap.size w w'
 rw [show splitT s.data.toList = R from by unfold splitT; rw [hC]; exact hR]
 clear hR hC hm
 go_enter Tryz.func145, Tryz.ntmps145
 go_wp2_with fail
 refine HC.out.mono ?_
 rintro e w1 ⟨rfl, n, rfl⟩
 cases c2 with
 | false =>
  go_wp2_with fail
  go_ret3
  have : R = ([], s.data.toList, true) := by rw [← HR.out]; rfl
  rw [this]
  exact ⟨rfl, pw_below_drewN (Below.refl _ _) n⟩
 | true =>
  have hRv : R = (c0, c1, !c0.isEmpty && !c1.isEmpty && !decide (0 ≤ Lib.indexByte c1 58)) := by rw [← HR.out]; rfl
  by_cases h0 : c0 = []
  ·
   subst h0
   go_wp2_with fail
   go_ret3
   rw [hRv]
   exact ⟨by simp, pw_below_drewN (Below.refl _ _) n⟩
  ·
   by_cases h1 : c1 = []
   ·
    subst h1
    go_wp2_with fail
    go_ret3
    rw [hRv]
    exact ⟨by simp, pw_below_drewN (Below.refl _ _) n⟩
   ·
    go_wp2_with fail
    refine (Tryz.strings_Contains_one ⟨c1.toArray⟩ 58 _).mono ?_
    rintro e w2 ⟨rfl, rfl⟩
    go_wp2_with fail
    go_ret3
    rw [hRv]
    exact ⟨by simp, pw_below_drewN (Below.refl _ _) n⟩
end Go.Proofs.YtknfpggiigncpaaGreatDoor.D
end
