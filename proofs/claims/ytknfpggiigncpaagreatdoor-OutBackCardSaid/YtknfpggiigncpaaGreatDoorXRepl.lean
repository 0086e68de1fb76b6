/- strings.byteStringReplacer.Replace, at the replacer that text.Escape builds. -/
import Derived.Test.YtknfpggiigncpaaGreatDoorXCheck
import Derived.Laws.IdiomCopy
import Derived.Laws.CopyOwn
import Derived.Deep.RegionLaw
import Derived.Laws.Cover3
import Derived.Laws.OwnMore
import Derived.Laws.CopyRow
import Derived.Laws.IdiomStrings
import Derived.Deep.CutRange
import Derived.Deep.QuietTactic
import Derived.BigQuiet
set_option linter.unusedVariables false
set_option linter.unusedSimpArgs false
namespace Go.Proofs.YtknfpggiigncpaaGreatDoor.P
open Go.RowKit YtknfpggiigncpaaGreatDoorW.PrintWords
def repOf (b : UInt8) : Option (List UInt8) :=
 if b = 38 then some [38, 97, 109, 112, 59] else if b = 60 then some [38, 108, 116, 59] else if b = 62 then some [38, 103, 116, 59]
 else if b = 34 then some [38, 113, 117, 111, 116, 59] else if b = 39 then some [38, 97, 112, 111, 115, 59] else if b = 9 then some [38, 35, 120, 57, 59]
 else if b = 10 then some [38, 35, 120, 65, 59] else if b = 13 then some [38, 35, 120, 68, 59] else none
theorem escByte_rep (b : UInt8) : escByte b = (repOf b).getD [b] := by
 unfold escByte repOf
 repeat' split
 all_goals rfl
theorem w64 {x : Int} (h0 : 0 ≤ x) (h1 : x ≤ 140737488355328) : IntKind.i64.wrap x = x := wrap_small x h0 (by omega)
@[go_sem, simp] theorem byte_of_one (b : UInt8) (h : 0 < (ByteArray.mk #[b]).size) : (ByteArray.mk #[b])[0] = b := rfl
def keys8 : List UInt8 := [13, 10, 9, 39, 34, 62, 60, 38]
def EntAt (m : Option (List UInt8)) (rb o : Nat) (w : World) : Prop := match m with
 | none => w.cell? ⟨rb, o, none⟩ = some (.slice none 0 0)
 | some n => ∃ g cap, w.cell? ⟨rb, o, none⟩ = some (.slice (some ⟨g, 0, none⟩) n.length cap) ∧ ∀ j v, (n.map fun b => Value.int .u8 (b.toNat : Int))[j]? = some v → w.cell? ((⟨g, 0, none⟩ : Addr).add j) = some v
structure Rep (rb : Nat) (w : World) : Prop where
 ents : ∀ o : Nat, o < 256 → EntAt (repOf (UInt8.ofNat o)) rb o w
 keys : ∃ g cap, w.cell? ⟨rb, 256, none⟩ = some (.slice (some ⟨g, 0, none⟩) 8 cap) ∧ ∀ i (h : i < 8), w.cell? ⟨g, i, none⟩ = some (.string ⟨#[keys8[i]]⟩)
theorem EntAt.below {m : Option (List UInt8)} {rb o : Nat} {w W : World} (h : EntAt m rb o w) (hb : Below w.heap.size w W) : EntAt m rb o W := by
 cases m with
 | none => exact cellBelow hb h
 | some n =>
  obtain ⟨g, cap, h1, h2⟩ := h
  exact ⟨g, cap, cellBelow hb h1, fun j v hj => cellBelow hb (h2 j v hj)⟩
theorem Rep.below {rb : Nat} {w W : World} (h : Rep rb w) (hb : Below w.heap.size w W) : Rep rb W :=
 ⟨fun o ho => (h.ents o ho).below hb, h.keys.elim fun g hg => hg.elim fun cap hc => ⟨g, cap, cellBelow hb hc.1, fun i hi => cellBelow hb (hc.2 i hi)⟩⟩
def cntSz (l : List UInt8) (k : Nat) : Nat := l.length + ((keys8.take k).map fun b => l.count b * ((escByte b).length - 1)).sum
def cntAny (l : List UInt8) (k : Nat) : Bool := (keys8.take k).any fun b => l.contains b
def anyRep (l : List UInt8) : Bool := l.any fun b => (repOf b).isSome
def preSz (l : List UInt8) (p : Nat) : Nat := (escL (l.take p)).length + (l.length - p)
theorem escByte_len (b : UInt8) : 1 ≤ (escByte b).length ∧ (escByte b).length ≤ 6 := by
 unfold escByte
 repeat' split
 all_goals simp
theorem escL_cons (b : UInt8) (l : List UInt8) : escL (b :: l) = escByte b ++ escL l := rfl
theorem escL_append (a b : List UInt8) : escL (a ++ b) = escL a ++ escL b := by simp [escL]
theorem escL_len : ∀ l : List UInt8, l.length ≤ (escL l).length ∧ (escL l).length ≤ 6 * l.length
 | [] => by simp [escL]
 | b :: l => by
  rw [escL_cons]
  have := escL_len l
  have := escByte_len b
  simp
  omega
theorem keys8_rep : ∀ b ∈ keys8, repOf b = some (escByte b) := by decide
theorem rep_keys8 (b : UInt8) (h : (repOf b).isSome = true) : b ∈ keys8 := by
 unfold repOf at h
 unfold keys8
 repeat' split at h
 all_goals first
  | (subst_vars; decide)
  | cases h
theorem cnt_all : ∀ l : List UInt8, cntSz l 8 = (escL l).length
 | [] => by simp [cntSz, keys8, escL]
 | b :: l => by
  have ih := cnt_all l
  unfold cntSz at ih ⊢
  rw [escL_cons, List.length_append, ← ih]
  simp only [keys8, List.take, List.map_cons, List.map_nil, List.sum_cons, List.sum_nil, List.count_cons, List.length_cons]
  have e1 : (escByte 13).length = 5 := rfl
  have e2 : (escByte 10).length = 5 := rfl
  have e3 : (escByte 9).length = 5 := rfl
  have e4 : (escByte 39).length = 6 := rfl
  have e5 : (escByte 34).length = 6 := rfl
  have e6 : (escByte 62).length = 4 := rfl
  have e7 : (escByte 60).length = 4 := rfl
  have e8 : (escByte 38).length = 5 := rfl
  rw [e1, e2, e3, e4, e5, e6, e7, e8]
  by_cases h1 : b = 13
  ·
   subst h1; rw [e1]; simp; omega
  by_cases h2 : b = 10
  ·
   subst h2; rw [e2]; simp; omega
  by_cases h3 : b = 9
  ·
   subst h3; rw [e3]; simp; omega
  by_cases h4 : b = 39
  ·
   subst h4; rw [e4]; simp; omega
  by_cases h5 : b = 34
  ·
   subst h5; rw [e5]; simp; omega
  by_cases h6 : b = 62
  ·
   subst h6; rw [e6]; simp; omega
  by_cases h7 : b = 60
  ·
   subst h7; rw [e7]; simp; omega
  by_cases h8 : b = 38
  ·
   subst h8; rw [e8]; simp; omega
  have : escByte b = [b] := by simp [escByte, h1, h2, h3, h4, h5, h6, h7, h8]
  rw [this]
  simp [h1, h2, h3, h4, h5, h6, h7, h8]
  omega
theorem any_all (l : List UInt8) : cntAny l 8 = anyRep l := by
 unfold cntAny anyRep
 rw [Bool.eq_iff_iff]
 simp only [List.any_eq_true, List.contains_iff_mem]
 constructor
 ·
  rintro ⟨b, hb, hl⟩
  exact ⟨b, hl, by rw [keys8_rep b (List.mem_of_mem_take hb)]; rfl⟩
 ·
  rintro ⟨b, hl, hb⟩
  exact ⟨b, by rw [show keys8.take 8 = keys8 from rfl]; exact rep_keys8 b hb, hl⟩
theorem cntSz_step (l : List UInt8) (k : Nat) (h : k < 8) : cntSz l (k + 1) = cntSz l k + l.count (keys8[k]'h) * ((escByte (keys8[k]'h)).length - 1) := by
 unfold cntSz
 have : keys8.take (k + 1) = keys8.take k ++ [keys8[k]'h] := by rw [List.take_add_one, List.getElem?_eq_getElem h]; rfl
 rw [this]
 simp
 omega
theorem cntAny_step (l : List UInt8) (k : Nat) (h : k < 8) : cntAny l (k + 1) = (cntAny l k || l.contains (keys8[k]'h)) := by
 unfold cntAny
 have : keys8.take (k + 1) = keys8.take k ++ [keys8[k]'h] := by rw [List.take_add_one, List.getElem?_eq_getElem h]; rfl
 rw [this]
 simp
theorem cntSz_le (l : List UInt8) : ∀ j k : Nat, k + j = 8 → cntSz l k ≤ 6 * l.length
 | 0, k, h => by
  obtain rfl : k = 8 := by omega
  rw [cnt_all]
  exact (escL_len l).2
 | j + 1, k, h => by
  have := cntSz_le l j (k + 1) (by omega)
  have := cntSz_step l k (by omega)
  omega
theorem preSz_step (l : List UInt8) (p : Nat) (h : p < l.length) : preSz l (p + 1) + 1 = preSz l p + (escByte l[p]).length := by
 unfold preSz
 rw [List.take_add_one, List.getElem?_eq_getElem h, Option.toList_some, escL_append, List.length_append, show escL [l[p]] = escByte l[p] by simp [escL]]
 omega
theorem preSz_le (l : List UInt8) (p : Nat) (h : p ≤ l.length) : preSz l p ≤ 6 * l.length := by
 have := (escL_len (l.take p)).2
 unfold preSz
 simp at this
 omega
theorem anyRep_step (l : List UInt8) (p : Nat) (h : p < l.length) : anyRep (l.take (p + 1)) = (anyRep (l.take p) || (repOf l[p]).isSome) := by
 unfold anyRep
 rw [List.take_add_one, List.getElem?_eq_getElem h, Option.toList_some, List.any_append]
 simp
def bufAt (l : List UInt8) (L p : Nat) : List Value := Lib.byteCells (escL (l.take p)) ++ List.replicate (L - (escL (l.take p)).length) (.int .u8 0)
theorem escL_take (l : List UInt8) (p : Nat) (h : p < l.length) : escL (l.take (p + 1)) = escL (l.take p) ++ escByte l[p] ∧ (escL (l.take p)).length + (escByte l[p]).length ≤ (escL l).length := by
 have e1 : escL (l.take (p + 1)) = escL (l.take p) ++ escByte l[p] := by
  rw [List.take_add_one, List.getElem?_eq_getElem h, Option.toList_some, escL_append, show escL [l[p]] = escByte l[p] by simp [escL]]
 refine ⟨e1, ?_⟩
 have e2 : escL l = escL (l.take (p + 1)) ++ escL (l.drop (p + 1)) := by rw [← escL_append, List.take_append_drop]
 rw [e2, e1]
 simp only [List.length_append]
 omega
theorem bufAt_len (l : List UInt8) (L p : Nat) (h : (escL (l.take p)).length ≤ L) : (bufAt l L p).length = L := by
 unfold bufAt
 rw [List.length_append, Lib.byteCells_length, List.length_replicate]
 omega
theorem bufAt_put (l : List UInt8) (L p : Nat) (n : List UInt8) (h : p < l.length) (hL : (escL l).length = L) (hn : escByte l[p] = n) :
  splice (bufAt l L p) (escL (l.take p)).length (Lib.byteCells n) = bufAt l L (p + 1) := by
 obtain ⟨h1, h2⟩ := escL_take l p h
 rw [hn, hL] at h2
 unfold splice bufAt
 rw [h1, hn]
 have e0 : (Lib.byteCells (escL (l.take p))).length = (escL (l.take p)).length := Lib.byteCells_length _
 have e1 : (Lib.byteCells n).length = n.length := Lib.byteCells_length _
 rw [show Lib.byteCells (escL (l.take p) ++ n) = Lib.byteCells (escL (l.take p)) ++ Lib.byteCells n by simp [Lib.byteCells]]
 rw [List.take_append_of_le_length (by omega), List.take_of_length_le (by omega), List.drop_append, List.drop_of_length_le (by omega), List.nil_append, List.drop_replicate, e0, e1, List.append_assoc]
 congr 3
 rw [List.length_append]
 omega
theorem bufAt_set (l : List UInt8) (L p : Nat) (b : UInt8) (h : p < l.length) (hL : (escL l).length = L) (hn : escByte l[p] = [b]) :
  (bufAt l L p).toArray.setIfInBounds (escL (l.take p)).length (.int .u8 (b.toNat : Int)) = (bufAt l L (p + 1)).toArray := by
 obtain ⟨h1, h2⟩ := escL_take l p h
 rw [← bufAt_put l L p [b] h hL hn]
 rw [hn, hL] at h2
 have hlen := bufAt_len l L p (by omega)
 simp only [List.length_cons, List.length_nil] at h2
 rw [List.setIfInBounds_toArray]
 congr 1
 unfold splice
 rw [List.set_eq_take_append_cons_drop, if_pos (by omega)]
 rfl
theorem anyRep_not : ∀ l : List UInt8, anyRep l = false → escL l = l
 | [], _ => rfl
 | b :: l, h => by
  unfold anyRep at h
  simp only [List.any_cons, Bool.or_eq_false_iff] at h
  rw [escL_cons, anyRep_not l h.2, escByte_rep]
  cases hr : repOf b with
  | none => rfl
  | some n => rw [hr] at h; cases h.1
set_option maxHeartbeats 4000000 in
set_option maxRecDepth 100000 in
theorem bsr_Replace (rb : Nat) (s : ByteArray) (w : World) (hR : Rep rb w) (hs : s.size * 6 ≤ 140737488355328) :
  Calls Tryz.prog 248 #[.pointer (some ⟨rb, 0, none⟩), .string s] w fun e w' => e = .returned (.string ⟨(escL s.data.toList).toArray⟩) ∧ Below w.heap.size w w' := by
 have HR := Lib.hid hR
 have Hs := Lib.hid hs
 obtain ⟨g, cap, hk0, hk⟩ := hR.keys
 have Hk := Lib.hid hk
 clear hR hs hk
 have hn : ((s.size : Nat) : Int) = s.data.toList.length := by simp
 obtain ⟨l, hl⟩ : ∃ l, s.data.toList = l := ⟨_, rfl⟩
 rw [hl] at hn ⊢
 have Hl := Lib.hid hl
 have Hn := Lib.hid hn
 clear hl
 go_enter Tryz.func248, Tryz.ntmps248
 go_upto_if 26 with fail
 go_cut [5, 6] from 7 (fun s5 s6 wc => s5 = .int .i64 (escL l).length ∧ s6 = .bool (anyRep l) ∧ Below w.heap.size w wc)
 case first =>
  by_cases h64 : 64 ≤ (l.length : Int)
  ·
   rw [decide_eq_true h64]
   clear h64
   go_wp2_with fail
   go_loopw [32, 8, 9, 5, 6] (fun v32 v8 v9 v5 v6 wr => ∃ k : Nat, v32 = .int .i64 k ∧ k ≤ 8 ∧ v5 = .int .i64 (cntSz l k) ∧ v6 = .bool (cntAny l k) ∧ Hid (Below w.heap.size w wr)) (fun v32 _ _ _ _ _ => 8 - (intOf v32).toNat)
   case atStart => exact ⟨0, rfl, by omega, by simp [cntSz, hn], rfl, Below.refl _ _⟩
   case round =>
    obtain ⟨k, rfl, hk8, rfl, rfl, hbl⟩ := hrel
    by_cases hk : k < 8
    ·
     obtain ⟨b, hb⟩ : ∃ b, keys8[k]'hk = b := ⟨_, rfl⟩
     have hcell := cellBelow hbl.out (Hk.out k hk)
     have hst := cntSz_step l k hk
     have hsa := cntAny_step l k hk
     have hle := cntSz_le l (8 - (k + 1)) (k + 1) (by omega)
     have hrb := keys8_rep _ (List.getElem_mem hk)
     have hlb := escByte_len (keys8[k]'hk)
     have hcl : l.count (keys8[k]'hk) ≤ l.length := List.count_le_length
     rw [hb] at hcell hst hsa hrb hlb hcl
     have hent := (HR.out.ents b.toNat b.toNat_lt).below hbl.out
     rw [UInt8.ofNat_toNat, hrb] at hent
     obtain ⟨g2, cap2, he1, -⟩ := hent
     go_wp2_with fail
     refine (Tryz.strings_Count_one s b _).mono ?_
     rintro e w2 ⟨rfl, rfl⟩
     rw [show Lib.countByte s.data.toList b = l.count b by rw [Hl.out]; rfl]
     by_cases hc0 : l.count b = 0
     ·
      have hcb : (((l.count b : Nat) : Int) != 0) = false := by rw [hc0]; rfl
      rw [hc0] at hst
      have hcn : l.contains b = false := by simpa [List.count_eq_zero] using hc0
      rw [hcn, Bool.or_false] at hsa
      go_wp2_with fail
      go_roundw
      case rel => exact ⟨k + 1, by simp, by omega, by simp at hst; rw [hst], by rw [hsa], hbl⟩
      case measure => simp [intOf]; omega
     ·
      have hcb : (((l.count b : Nat) : Int) != 0) = true := by simp; omega
      have hcn : l.contains b = true := by simpa [List.count_eq_zero] using hc0
      rw [hcn, Bool.or_true] at hsa
      obtain ⟨c, hc⟩ : ∃ c : Nat, l.count b = c := ⟨_, rfl⟩
      obtain ⟨q, hq⟩ : ∃ c : Nat, (escByte b).length = c := ⟨_, rfl⟩
      rw [hc] at hst hcl hcb
      rw [hq] at hst he1 hlb
      rw [hc]
      obtain ⟨m, hm⟩ : ∃ m : Nat, c * (q - 1) = m := ⟨_, rfl⟩
      have hmi : (c : Int) * ((q : Int) - 1) = m := by rw [← hm, Int.natCast_mul]; congr 1; omega
      rw [hm] at hst
      obtain ⟨z, hz⟩ : ∃ z : Nat, cntSz l k = z := ⟨_, rfl⟩
      have hbd : z + m ≤ 140737488355328 := by have := Hs.out; have := Hn.out; omega
      rw [hz] at hst ⊢
      have hw1 : IntKind.i64.wrap ((q : Int) - 1) = (q : Int) - 1 := w64 (by omega) (by omega)
      have hw2 : IntKind.i64.wrap ((c : Int) * ((q : Int) - 1)) = m := by rw [hmi]; exact w64 (by omega) (by omega)
      have hw3 : IntKind.i64.wrap ((z : Int) + m) = z + m := w64 (by omega) (by omega)
      have hbb : (b.toNat : Int) < 256 := by have := b.toNat_lt; omega
      go_wp2_with fail
      go_quiet (fail)
      go_wp2_with fail
      go_roundw
      case rel => exact ⟨k + 1, by simp, by omega, by rw [hst]; simp, by rw [hsa], hbl.out.trans (pw_below_drewN (Below.refl _ _) _)⟩
      case measure => simp [intOf]; omega
    ·
     obtain rfl : k = 8 := by omega
     rw [cnt_all, any_all]
     go_wp2_with fail
     go_meet
     exact ⟨rfl, rfl, hbl.out⟩
  ·
   rw [decide_eq_false h64]
   clear h64
   go_wp2_with fail
   go_loopw [10, 11, 5, 6] (fun v10 v11 v5 v6 wr => ∃ p : Nat, v10 = .int .i64 p ∧ p ≤ l.length ∧ v5 = .int .i64 (preSz l p) ∧ v6 = .bool (anyRep (l.take p)) ∧ wr = w) (fun v10 _ _ _ _ => l.length - (intOf v10).toNat)
   case atStart => exact ⟨0, rfl, by omega, by simp [preSz, escL, hn], rfl, rfl⟩
   case round =>
    obtain ⟨p, rfl, hp, rfl, rfl, rfl⟩ := hrel
    by_cases hlt : p < l.length
    ·
     have hps : p < s.size := by have := Hn.out; omega
     have hent := HR.out.ents (s[p]'hps).toNat (s[p]'hps).toNat_lt
     rw [UInt8.ofNat_toNat] at hent
     have hbb : ((s[p]'hps).toNat : Int) < 256 := by have := (s[p]'hps).toNat_lt; omega
     have hlp : l[p] = s[p]'hps := by simp only [← Hl.out]; rfl
     have hst := preSz_step l p hlt
     have hsa := anyRep_step l p hlt
     have hle := preSz_le l p (by omega)
     have hle2 := preSz_le l (p + 1) (by omega)
     have hbd := Hs.out
     rw [hlp] at hst hsa
     rw [escByte_rep] at hst
     have hw0 : IntKind.i64.wrap ((p : Int) + 1) = p + 1 := wrap_small _ (by omega) (by omega)
     cases hr : repOf (s[p]'hps) with
     | none =>
      rw [hr] at hent hst hsa
      have hent : wr.cell? ⟨rb, (s[p]'hps).toNat, none⟩ = some (.slice none 0 0) := hent
      simp only [Option.isSome_none, Bool.or_false] at hsa
      have hst2 : preSz l (p + 1) = preSz l p := by simpa using hst
      clear hbd hst
      go_wp2_with fail
      go_roundw
      case rel => exact ⟨p + 1, by simp [hw0], by omega, by rw [hst2], by rw [hsa], trivial⟩
      case measure => simp [intOf, hw0]; omega
     | some n =>
      rw [hr] at hent hst hsa
      obtain ⟨g2, cap2, he1, -⟩ := hent
      simp only [Option.isSome_some, Bool.or_true] at hsa
      obtain ⟨q, hq⟩ : ∃ q, n.length = q := ⟨_, rfl⟩
      obtain ⟨z, hz⟩ : ∃ z, preSz l p = z := ⟨_, rfl⟩
      rw [Option.getD_some, hq, hz] at hst
      rw [hq] at he1
      rw [hz]
      have hst2 : (preSz l (p + 1) : Int) = z + ((q : Int) - 1) := by omega
      have hq16 : 1 ≤ q ∧ q ≤ 6 := by have := escByte_len (s[p]'hps); rw [escByte_rep, hr, Option.getD_some, hq] at this; exact this
      have hw1 : IntKind.i64.wrap ((q : Int) - 1) = (q : Int) - 1 := wrap_small _ (by omega) (by omega)
      have hw2 : IntKind.i64.wrap ((z : Int) + ((q : Int) - 1)) = z + ((q : Int) - 1) := wrap_small _ (by omega) (by omega)
      clear hbd hst
      go_wp2_with fail
      go_roundw
      case rel => exact ⟨p + 1, by simp [hw0], by omega, by rw [hst2], by rw [hsa], trivial⟩
      case measure => simp [intOf, hw0]; omega
    ·
     obtain rfl : p = l.length := by omega
     rw [show preSz l l.length = (escL l).length by simp [preSz], show l.take l.length = l by simp]
     go_wp2_with fail
     go_meet
     exact ⟨rfl, rfl, Below.refl _ _⟩
 case rest =>
  obtain ⟨rfl, rfl, hb⟩ := hcut
  have hLb := (escL_len l).2
  have hbd := Hs.out
  obtain ⟨L, hL⟩ : ∃ L, (escL l).length = L := ⟨_, rfl⟩
  rw [hL] at hLb ⊢
  have hL47 : L ≤ 140737488355328 := by omega
  cases hany : anyRep l with
  | false =>
   clear hbd hL47
   go_wp2_with fail
   go_ret
   refine ⟨?_, hb⟩
   rw [anyRep_not l hany, ← Hl.out]
   rfl
  | true =>
   obtain ⟨i, hi, hiz, his, hib⟩ : ∃ i, Tryz.prog.info? 5 = some i ∧ i.zero = some (.int .u8 0) ∧ i.size = 1 ∧ i.bytes = 1 := by
    have hm : (Tryz.prog.info? 5).map (fun i => (i.zero, i.size, i.bytes)) = some (some (Value.int .u8 0), 1, 1) := by kernel_rfl
    cases hq : Tryz.prog.info? 5 with
    | none => rw [hq] at hm; cases hm
    | some i =>
     rw [hq] at hm
     simp at hm
     exact ⟨i, rfl, hm.1, hm.2.1, hm.2.2⟩
   have hmk := run_make (P := Tryz.prog) wc 63 5 i (.int .u8 0) (by kernel_rfl) hi hiz .i64 .i64 L L (by omega) (by omega) (by rw [hib]; omega) (by omega)
   rw [Int.toNat_natCast, his, Nat.mul_one] at hmk
   obtain ⟨z0, hz0⟩ : ∃ z0, madeCells (Value.int .u8 0).cells L = z0 := ⟨_, rfl⟩
   rw [hz0] at hmk
   have Hz0 := Lib.hid hz0
   have HL := Lib.hid hL
   have HL47 := Lib.hid hL47
   clear hz0 hL hbd hL47 hLb
   go_wp2_with fail
   have hbn : Below wc.heap.size wc (wc.alloc (.cells z0 5)) := (Below.refl _ _).alloc (Nat.le_refl _) _
   go_loopw [14, 15, 13] (fun v14 v15 v13 wr => ∃ p : Nat, v14 = .int .i64 p ∧ p ≤ l.length ∧ v13 = .int .i64 (escL (l.take p)).length ∧ Hid (wr.heap[wc.heap.size]? = some (.cells (bufAt l L p).toArray 5 (0, 0))) ∧ Hid (Below wc.heap.size wc wr)) (fun v14 _ _ _ => l.length - (intOf v14).toNat)
   case atStart => 
    refine ⟨0, rfl, by omega, rfl, ?_, hbn⟩
    show (wc.alloc (.cells z0 5)).heap[wc.heap.size]? = _
    have hz : z0 = (bufAt l L 0).toArray := by
     rw [← Hz0.out, show (Value.int IntKind.u8 0).cells = #[.int .u8 0] from rfl]
     apply Array.toList_inj.1
     rw [toList_madeCells_one]
     simp [bufAt, escL, Lib.byteCells]
    rw [hz]
    exact (Go.MapKept.heap_alloc wc _).1
   case round =>
    obtain ⟨p, rfl, hp, rfl, hrow, hbl⟩ := hrel
    by_cases hlt : p < l.length
    ·
     have hps : p < s.size := by have := Hn.out; omega
     have hent := (HR.out.ents (s[p]'hps).toNat (s[p]'hps).toNat_lt).below (hb.trans (hbl.out.mono (by have := hb.size; exact this)))
     rw [UInt8.ofNat_toNat] at hent
     have hbb : ((s[p]'hps).toNat : Int) < 256 := by have := (s[p]'hps).toNat_lt; omega
     have hlp : l[p] = s[p]'hps := by simp only [← Hl.out]; rfl
     have hw0 : IntKind.i64.wrap ((p : Int) + 1) = p + 1 := wrap_small _ (by omega) (by have := Hs.out; omega)
     obtain ⟨hst, hle⟩ := escL_take l p hlt
     have hput := fun n => bufAt_put l L p n hlt HL.out
     have hset := fun b => bufAt_set l L p b hlt HL.out
     obtain ⟨j, hj⟩ : ∃ j, (escL (l.take p)).length = j := ⟨_, rfl⟩
     have hbl5 := bufAt_len l L p
     have hjl : (escL (l.take (p + 1))).length = j + (escByte l[p]).length := by rw [hst, List.length_append, hj]
     rw [HL.out] at hle
     rw [hj] at hput hset hle hbl5 ⊢
     rw [hlp] at hput hset hjl hle
     have hgb : wc.heap.size < wr.heap.size := (Array.getElem?_eq_some_iff.1 hrow.out).1
     cases hr : repOf (s[p]'hps) with
     | none =>
      have heb : escByte (s[p]'hps) = [s[p]'hps] := by rw [escByte_rep, hr]; rfl
      rw [hr] at hent
      have hent : wr.cell? ⟨rb, (s[p]'hps).toNat, none⟩ = some (.slice none 0 0) := hent
      rw [heb] at hjl hle
      simp only [List.length_cons, List.length_nil] at hjl hle
      have hset := hset _ heb
      obtain ⟨x, hcj⟩ : ∃ x, wr.cell? ⟨wc.heap.size, j, none⟩ = some x := ⟨(bufAt l L p)[j]'(by rw [hbl5 (by omega)]; omega), by
       rw [cell_of_row _ _ _ _ _ _ hrow.out, List.getElem?_toArray, List.getElem?_eq_getElem]⟩
      have hfz := frozen_of_row wr wc.heap.size j _ _ hrow.out
      have hwj : IntKind.i64.wrap ((j : Int) + 1) = j + 1 := wrap_small _ (by omega) (by have := HL47.out; omega)
      have hjL : (j : Int) < L := by omega
      clear hput hle hbl5 hst hj
      go_wp2_with fail
      go_roundw
      case rel =>
       refine ⟨p + 1, by simp [hw0], by omega, by rw [hjl]; simp [hwj], ?_, hbl.out.setCell (Nat.le_refl _) _⟩
       show (wr.setCell _ _).heap[_]? = _
       rw [heap_setCell_same _ _ _ _ _ _ hrow.out, hset]
      case measure => simp [intOf, hw0]; omega
     | some n =>
      have heb : escByte (s[p]'hps) = n := by rw [escByte_rep, hr]; rfl
      have hn6 := escByte_len (s[p]'hps)
      rw [heb] at hjl hle hn6
      have hput := hput n heb
      rw [hr] at hent
      obtain ⟨g2, cap2, he1, he2⟩ := hent
      obtain ⟨q, hq⟩ : ∃ q, n.length = q := ⟨_, rfl⟩
      rw [hq] at he1 hjl hle hn6
      have hwj : IntKind.i64.wrap ((j : Int) + q) = j + q := wrap_small _ (by omega) (by have := HL47.out; omega)
      have hjL : (j : Int) ≤ L := by omega
      have hqc : (Lib.byteCells n).length = q := by rw [Lib.byteCells_length, hq]
      have hbl5 := hbl5 (by omega)
      have He2 := Lib.hid he2
      have Hput := Lib.hid hput
      have Hbl5 := Lib.hid hbl5
      have Hle := Lib.hid hle
      have Hqc := Lib.hid hqc
      clear hput hle hbl5 hst hj he2 hset hqc
      go_wp2_with fail
      have hbd7 : Below wc.heap.size wc wr.drew := ⟨hbl.out.os, hbl.out.tape, hbl.out.output, hbl.out.size, hbl.out.block⟩
      go_region_law (refine step_copy_splice rfl _ _ 63 63 rfl 5 (by kernel_rfl) (by kernel_rfl) _ _ _ _ _ _ rfl rfl wc.heap.size j (bufAt l L p) 5 hrow.out (Lib.byteCells n) (by rw [Hqc.out]; have := Hle.out; exact (Nat.min_eq_left (by first | omega | (simp; omega))).symm) (fun _ => ⟨by simp; have := Hle.out; omega, _, rfl, He2.out⟩) (by rw [Hqc.out, Hbl5.out]; exact Hle.out) (by simp [Lib.byteCells, Value.oneCell']) wc.heap.size wc hbd7 (Nat.le_refl _) (fun w7 h7 hb7 => ?_))
      go_wp2_with fail
      go_roundw
      case rel =>
       refine ⟨p + 1, by simp [hw0], by omega, by rw [hjl]; simp [Hqc.out]; have := HL47.out; have := Hle.out; unfold wrap64; omega, ?_, hb7⟩
       show w7.heap[_]? = _
       rw [h7.out, Hput.out]
      case measure => simp [intOf, hw0]; omega
    ·
     obtain rfl : p = l.length := by omega
     have hcv := run_convert_bytes_back (P := Tryz.prog) wr 63 9 5 ⟨wc.heap.size, 0, none⟩ L (escL l) (by kernel_rfl) (by kernel_rfl) (by kernel_rfl) (fun j hj => by
      rw [show ((⟨wc.heap.size, 0, none⟩ : Addr).add j) = ⟨wc.heap.size, j, none⟩ by simp [Addr.add]; omega, cell_of_row _ _ _ _ _ _ hrow.out]
      simp [bufAt, Lib.byteCells]
      rw [List.getElem?_append_left (by simpa using hj)]
      simp [hj])
     rw [HL.out] at hcv
     go_wp2_with fail
     go_ret
     exact ⟨rfl, hb.trans (hbl.out.mono hb.size)⟩
end Go.Proofs.YtknfpggiigncpaaGreatDoor.P
