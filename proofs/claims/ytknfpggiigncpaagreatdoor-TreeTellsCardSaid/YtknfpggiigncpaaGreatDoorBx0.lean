/- Parts of the proof. -/
import Derived.Test.YtknfpggiigncpaaGreatDoorFx1
import Derived.Test.YtknfpggiigncpaaGreatDoorTp2
import Derived.Test.YtknfpggiigncpaaGreatDoorCx0
import Derived.Laws.DeepBits32
import Derived.Laws.Bits64b
import Derived.Laws.Runes
import Derived.Test.YtknfpggiigncpaaGreatDoorCkLaw
import Derived.Lib.LazyBuf
import Derived.Tactics
import Derived.Tactics2
import Derived.Defers
import Derived.Laws.Pointers
import Derived.Laws.LoneSync
import Derived.RegionTactic
import Derived.RegionCalls
import Derived.ChangeAlike
import Derived.Test.YtknfpggiigncpaaGreatDoorProg
import Derived.Below
import Derived.Deep.Draws
import Derived.Deep.AppendLies
import Derived.Maps.AppendAt
import Derived.OwnWalk
import Derived.Laws.BytesArg
import Derived.Laws.MakeOwn
import Derived.Laws.OwnMore
import Derived.Deep.OwnRows
import Derived.Lib.ConvBytes
import Derived.Laws.Slices
import Derived.WalkKit
import Derived.KernelRfl
import Derived.RowKit3
import Derived.Deep.LoopGhost
import Derived.Deep.QuietTactic
import Derived.BigQuiet
import Derived.WideLaws
import Derived.Deep.DeepCutAuto
import Derived.Deep.CutBlock
import Derived.Deep.RegionHeld3
import Derived.Laws.Rows
import Derived.Lib.AppendStr
import Derived.ArgAppend
import Derived.Laws.IdiomCopy
import Derived.OrdersHeld
import Derived.Laws.BitsLemmas
import Derived.RowKit
import Derived.Test.YtknfpggiigncpaaGreatDoorWWords
import Derived.Test.YtknfpggiigncpaaGreatDoorWLast
import Derived.Test.YtknfpggiigncpaaGreatDoorWTab
import Derived.Test.YtknfpggiigncpaaGreatDoorWMore
import Derived.Laws.StructEq
set_option linter.unusedVariables false
set_option linter.unusedSimpArgs false
section
namespace Go.Proofs.YtknfpggiigncpaaGreatDoor.T
open Go.RowKit P E YtknfpggiigncpaaGreatDoorW.PrintLast YtknfpggiigncpaaGreatDoorW.PrintMore
open YtknfpggiigncpaaGreatDoorW.PrintWords
def colI (l : List UInt8) (i n : Nat) (a : Int) : Int := if n = 0 ∧ l.count 58 ≠ 0 then (i : Int) + ((l.takeWhile (fun c => c != 58)).length : Int) else a
theorem bt_l (s : ByteArray) (i : Nat) (h : i < s.data.toList.length) : bt s (i : Int) = ((s.data.toList[i]'h).toNat : Int) := by
 unfold bt
 have hs : (i : Int).toNat < s.size := by
  rw [Int.toNat_natCast, Lib.size_eq]
  exact h
 rw [dif_pos hs]
 have e : s[(i : Int).toNat]'hs = s.data.toList[i]'h := by
  simp only [Int.toNat_natCast]
  show s.data[i] = _
  rw [Array.getElem_toList]
 rw [e]
theorem col_wrap (i : Nat) (h : i ≤ 4194304) : wrap64 ((i : Int) + 1) = ((i + 1 : Nat) : Int) := by unfold wrap64; omega
theorem col_end (s : ByteArray) (k i : Nat) (x a : Int) (h : ¬ i < s.size) : F.remitterref10_colons.l0 (k + 1) s x a (i : Int) = some (x, a) := by
 rw [F.remitterref10_colons.l0, if_neg (by omega)]
theorem col_yes0 (s : ByteArray) (k i : Nat) (a : Int) (h : i < s.size) (hi : i ≤ 4194304) (hb : bt s (i : Int) = 58) : F.remitterref10_colons.l0 (k + 1) s ((0 : Nat) : Int) a (i : Int) = F.remitterref10_colons.l0 k s ((1 : Nat) : Int) (i : Int) ((i + 1 : Nat) : Int) := by
 rw [F.remitterref10_colons.l0, if_pos (by omega), if_pos (by omega), if_pos hb, if_pos (show ((0 : Nat) : Int) = 0 from rfl), col_wrap i hi, col_wrap 0 (Nat.zero_le _)]
theorem col_yes (s : ByteArray) (k i n : Nat) (a : Int) (h : i < s.size) (hi : i ≤ 4194304) (hn : n ≤ 4194304) (hn0 : n ≠ 0) (hb : bt s (i : Int) = 58) : F.remitterref10_colons.l0 (k + 1) s (n : Int) a (i : Int) = F.remitterref10_colons.l0 k s ((n + 1 : Nat) : Int) a ((i + 1 : Nat) : Int) := by
 rw [F.remitterref10_colons.l0, if_pos (by omega), if_pos (by omega), if_pos hb, if_neg (by omega), col_wrap i hi, col_wrap n hn]
theorem col_no (s : ByteArray) (k i : Nat) (x a : Int) (h : i < s.size) (hi : i ≤ 4194304) (hb : bt s (i : Int) ≠ 58) : F.remitterref10_colons.l0 (k + 1) s x a (i : Int) = F.remitterref10_colons.l0 k s x a ((i + 1 : Nat) : Int) := by
 rw [F.remitterref10_colons.l0, if_pos (by omega), if_pos (by omega), if_neg hb, col_wrap i hi]
theorem colI_no (b : UInt8) (r : List UInt8) (i n : Nat) (a : Int) (h : b ≠ 58) : colI (b :: r) i n a = colI r (i + 1) n a ∧ (b :: r).count 58 = r.count 58 := by
 have hc : (b :: r).count 58 = r.count 58 := List.count_cons_of_ne h
 refine ⟨?_, hc⟩
 unfold colI
 rw [hc]
 by_cases hq : n = 0 ∧ r.count 58 ≠ 0
 ·
  rw [if_pos hq, if_pos hq, List.takeWhile_cons_of_pos (by simpa using h), List.length_cons]
  omega
 ·
  rw [if_neg hq, if_neg hq]
theorem colI_yes0 (r : List UInt8) (i : Nat) (a : Int) : colI (58 :: r) i 0 a = colI r (i + 1) 1 (i : Int) := by
 unfold colI
 rw [if_pos ⟨rfl, by rw [List.count_cons_self]; omega⟩, if_neg (by omega), List.takeWhile_cons_of_neg (by simp)]
 simp
theorem colI_yes (r : List UInt8) (i n : Nat) (a : Int) (hn : n ≠ 0) : colI (58 :: r) i n a = colI r (i + 1) (n + 1) a := by
 unfold colI
 rw [if_neg (fun h => hn h.1), if_neg (by omega)]
theorem byte58 {b : UInt8} (h : b ≠ 58) : (b.toNat : Int) ≠ 58 := by
 intro e
 apply h
 have h8 : (58 : UInt8).toNat = 58 := rfl
 exact UInt8.toNat_inj.1 (by omega)
theorem col_l0 (s : ByteArray) (hs : s.size ≤ 4194304) (d : Nat) : ∀ (k i n : Nat) (a : Int), s.size - i = d → i ≤ s.size → d < k → n ≤ i →
  F.remitterref10_colons.l0 k s (n : Int) a (i : Int) = some (((n + (s.data.toList.drop i).count 58 : Nat) : Int), colI (s.data.toList.drop i) i n a) := by
 induction d with
 | zero =>
  intro k i n a hd hi hk hn
  obtain ⟨k, rfl⟩ : ∃ m, k = m + 1 := ⟨k - 1, by omega⟩
  have hz : s.data.toList.drop i = [] := List.drop_eq_nil_of_le (by rw [← Lib.size_eq]; omega)
  rw [col_end s k i _ _ (by omega), hz]
  unfold colI
  simp
 | succ d ih =>
  intro k i n a hd hi hk hn
  obtain ⟨k, rfl⟩ : ∃ m, k = m + 1 := ⟨k - 1, by omega⟩
  have hlt : i < s.size := by omega
  have hll : i < s.data.toList.length := by rw [← Lib.size_eq]; exact hlt
  have h1 : s.size - (i + 1) = d := by omega
  have h3 : d < k := by omega
  have hi4 : i ≤ 4194304 := by omega
  have hn4 : n ≤ 4194304 := by omega
  have I0 := ih k (i + 1) n a h1 hlt h3 (Nat.le_succ_of_le hn)
  have I1 := ih k (i + 1) 1 (i : Int) h1 hlt h3 (Nat.succ_le_succ (Nat.zero_le _))
  have I2 := ih k (i + 1) (n + 1) a h1 hlt h3 (Nat.succ_le_succ hn)
  clear ih hd hi hk h1 h3
  have hb := bt_l s i hll
  rw [List.drop_eq_getElem_cons hll]
  generalize s.data.toList[i] = b at hb ⊢
  generalize s.data.toList.drop (i + 1) = r at I0 I1 I2 ⊢
  by_cases h58 : b = 58
  ·
   subst h58
   by_cases hn0 : n = 0
   ·
    subst hn0
    rw [col_yes0 s k i a hlt hi4 hb, I1, colI_yes0, List.count_cons_self]
    simp only [Nat.zero_add, Nat.add_comm]
   ·
    rw [col_yes s k i n a hlt hi4 hn4 hn0 hb, I2, colI_yes r i n a hn0, List.count_cons_self]
    simp only [Nat.add_assoc, Nat.add_comm]
  ·
   rw [col_no s k i _ a hlt hi4 (by rw [hb]; exact byte58 h58), I0, (colI_no b r i n a h58).1, (colI_no b r i n a h58).2]
theorem colons_any (s : ByteArray) (w : World) (hs : s.size ≤ 4194304) :
  Calls Tryz.prog 118 #[.string s] w fun e w' => e = .returned (.tuple #[.int .i64 (colN s.data.toList : Int), .int .i64 (colA s.data.toList)]) ∧ Drawn0 w w' := by
 refine F.remitterref10_colons.calls (s.size + 1) s _ _ w ?_
 unfold F.remitterref10_colons.f
 have := col_l0 s hs s.size (s.size + 1) 0 0 (-1) (by omega) (by omega) (by omega) (by omega)
 rw [List.drop_zero] at this
 have e0 : ((0 : Nat) : Int) = 0 := rfl
 rw [e0] at this
 rw [this]
 unfold colI colA colN
 by_cases h : s.data.toList.count 58 = 0
 ·
  rw [if_neg (by omega), if_pos h]; simp
 ·
  rw [if_pos ⟨rfl, h⟩, if_neg h]; simp
def spS (sp : List (List UInt8 × List UInt8)) : List F.S174 := sp.map fun x => ⟨⟨x.1.toArray⟩, ⟨x.2.toArray⟩⟩
theorem look_l0 (sp : List (List UInt8 × List UInt8)) (hl : sp.length ≤ 4194304) (p : ByteArray) : ∀ (j k : Nat), j ≤ sp.length → j < k →
  F.remitterref10_look.l0 k (spS sp) p ((j : Int) - 1) = some (⟨((spGet (sp.take j) p.data.toList).getD []).toArray⟩, (spGet (sp.take j) p.data.toList).isSome || p.data.toList.isEmpty) := by
 intro j
 induction j with
 | zero =>
  intro k hj hk
  obtain ⟨k, rfl⟩ : ∃ m, k = m + 1 := ⟨k - 1, by omega⟩
  simp only [F.remitterref10_look.l0]
  rw [if_neg (by omega)]
  have : (p.toList == ([] : List UInt8)) = p.data.toList.isEmpty := by
   rw [Lib.toList_data]
   cases p.data.toList <;> rfl
  rw [this]
  rfl
 | succ j ih =>
  intro k hj hk
  obtain ⟨k, rfl⟩ : ∃ m, k = m + 1 := ⟨k - 1, by omega⟩
  have hlt : j < sp.length := by omega
  have htk : sp.take (j + 1) = sp.take j ++ [sp[j]] := by rw [List.take_succ_eq_append_getElem hlt]
  have hrd : F.rd_T174 (spS sp) (((j + 1 : Nat) : Int) - 1) = ⟨⟨sp[j].1.toArray⟩, ⟨sp[j].2.toArray⟩⟩ := by
   unfold F.rd_T174
   rw [show (((j + 1 : Nat) : Int) - 1).toNat = j by omega, List.getD_eq_getElem?_getD]
   unfold spS
   rw [List.getElem?_map, List.getElem?_eq_getElem hlt]
   rfl
  have hw : wrap64 ((((j + 1 : Nat) : Int) - 1) - 1) = (j : Int) - 1 := by unfold wrap64; omega
  simp only [F.remitterref10_look.l0]
  rw [if_pos (by omega), if_pos (by omega), if_pos (by unfold spS; rw [List.length_map]; omega), hrd, hw, htk, spGet_snoc]
  simp only
  by_cases he : sp[j].1 = p.data.toList
  ·
   rw [if_pos (by rw [Lib.toList_data, Lib.toList_data]; exact he), if_pos he]
   rfl
  ·
   rw [if_neg (by rw [Lib.toList_data, Lib.toList_data]; exact he), if_neg he]
   exact ih k (by omega) (by omega)
theorem look_any (sp : List (List UInt8 × List UInt8)) (hl : sp.length ≤ 4194304) (A : Option Addr) (c : Nat) (p : ByteArray) (w : World) (hr : Kd.C F.k174 w A (spS sp).length (spS sp)) (hc : (spS sp).length ≤ c) :
  Calls Tryz.prog 119 #[.slice A (spS sp).length c, .string p] w fun e w' => e = .returned (.tuple #[.string ⟨((spGet sp p.data.toList).getD []).toArray⟩, .bool ((spGet sp p.data.toList).isSome || p.data.toList.isEmpty)]) ∧ Drawn0 w w' := by
 refine F.remitterref10_look.calls (sp.length + 1) A c (spS sp) p _ _ w hr hc ?_
 unfold F.remitterref10_look.f
 have hls : (spS sp).length = sp.length := by unfold spS; rw [List.length_map]
 have := look_l0 sp hl p sp.length (sp.length + 1) (Nat.le_refl _) (by omega)
 rw [List.take_length] at this
 rw [hls, show wrap64 ((sp.length : Int) - 1) = (sp.length : Int) - 1 by unfold wrap64; omega, this]
end Go.Proofs.YtknfpggiigncpaaGreatDoor.T
end
section
namespace Go.Proofs.YtknfpggiigncpaaGreatDoor.C
open Go.RowKit
def tr77 (x : S77) : S92 := ⟨x.f0, x.f1⟩
def tr44 (x : S44) : S88 := ⟨x.f0, x.f1, x.f2, x.f3.map tr77, x.f4, x.f5⟩
theorem rd_map77 (l : List S77) (i : Nat) (h : i < l.length) : rd_T92 (l.map tr77) (i : Int) = tr77 (rd_T77 l (i : Int)) := by
 unfold rd_T92 rd_T77
 simp [List.getD_eq_getElem?_getD, h]
end Go.Proofs.YtknfpggiigncpaaGreatDoor.C
end
section
namespace Go.Proofs.YtknfpggiigncpaaGreatDoor.P
theorem and_i64 (a b : Nat) (ha : a < 9223372036854775808) (hb : b < 9223372036854775808) : bits .and .i64 (a : Int) (b : Int) = ((a &&& b : Nat) : Int) := by
 have hx : a &&& b < 2 ^ 63 := Nat.and_lt_two_pow _ (by omega)
 have h1 : (BitVec.ofInt 64 (a : Int)).toNat = a := by
  rw [BitVec.ofInt_natCast, BitVec.toNat_ofNat]; exact Nat.mod_eq_of_lt (by omega)
 have h2 : (BitVec.ofInt 64 (b : Int)).toNat = b := by
  rw [BitVec.ofInt_natCast, BitVec.toNat_ofNat]; exact Nat.mod_eq_of_lt (by omega)
 show IntKind.i64.wrap ((BitVec.ofInt 64 (a : Int) &&& BitVec.ofInt 64 (b : Int)).toNat : Int) = _
 rw [BitVec.toNat_and, h1, h2]
 exact wrap_small _ (by omega) (by omega)
theorem or_i64 (a b : Nat) (ha : a < 9223372036854775808) (hb : b < 9223372036854775808) : bits .or .i64 (a : Int) (b : Int) = ((a ||| b : Nat) : Int) := by
 have hx : a ||| b < 2 ^ 63 := Nat.or_lt_two_pow (by omega) (by omega)
 have h1 : (BitVec.ofInt 64 (a : Int)).toNat = a := by
  rw [BitVec.ofInt_natCast, BitVec.toNat_ofNat]; exact Nat.mod_eq_of_lt (by omega)
 have h2 : (BitVec.ofInt 64 (b : Int)).toNat = b := by
  rw [BitVec.ofInt_natCast, BitVec.toNat_ofNat]; exact Nat.mod_eq_of_lt (by omega)
 show IntKind.i64.wrap ((BitVec.ofInt 64 (a : Int) ||| BitVec.ofInt 64 (b : Int)).toNat : Int) = _
 rw [BitVec.toNat_or, h1, h2]
 exact wrap_small _ (by omega) (by omega)
theorem or_i32 (a b : Nat) (ha : a < 2147483648) (hb : b < 2147483648) : bits .or .i32 (a : Int) (b : Int) = ((a ||| b : Nat) : Int) := by
 have hx : a ||| b < 2 ^ 31 := Nat.or_lt_two_pow (by omega) (by omega)
 have h1 : (BitVec.ofInt 32 (a : Int)).toNat = a := by
  rw [BitVec.ofInt_natCast, BitVec.toNat_ofNat]; exact Nat.mod_eq_of_lt (by omega)
 have h2 : (BitVec.ofInt 32 (b : Int)).toNat = b := by
  rw [BitVec.ofInt_natCast, BitVec.toNat_ofNat]; exact Nat.mod_eq_of_lt (by omega)
 show IntKind.i32.wrap ((BitVec.ofInt 32 (a : Int) ||| BitVec.ofInt 32 (b : Int)).toNat : Int) = _
 rw [BitVec.toNat_or, h1, h2]
 exact wrap_i32_small _ (by omega) (by omega)
theorem and_u8 (a b : Nat) (ha : a < 256) (hb : b < 256) : bits .and .u8 (a : Int) (b : Int) = ((a &&& b : Nat) : Int) := by
 have hx : a &&& b < 2 ^ 8 := Nat.and_lt_two_pow _ (by omega)
 have h1 : (BitVec.ofInt 8 (a : Int)).toNat = a := by
  rw [BitVec.ofInt_natCast, BitVec.toNat_ofNat]; exact Nat.mod_eq_of_lt (by omega)
 have h2 : (BitVec.ofInt 8 (b : Int)).toNat = b := by
  rw [BitVec.ofInt_natCast, BitVec.toNat_ofNat]; exact Nat.mod_eq_of_lt (by omega)
 show IntKind.u8.wrap ((BitVec.ofInt 8 (a : Int) &&& BitVec.ofInt 8 (b : Int)).toNat : Int) = _
 rw [BitVec.toNat_and, h1, h2]
 simp [IntKind.wrap, IntKind.bits, IntKind.signed]
 omega
theorem and_mask (a k : Nat) : a &&& (2 ^ k - 1) = a % 2 ^ k := Nat.and_two_pow_sub_one_eq_mod a k
theorem or_parts (a b k : Nat) (h : b < 2 ^ k) : (2 ^ k * a) ||| b = 2 ^ k * a + b := (Nat.two_pow_add_eq_or_of_lt h a).symm
theorem or64_i64 (a b : Nat) (ha : a < 1073741824) (hb : b < 64) : bits .or .i64 ((a : Int) * 64) (b : Int) = (a : Int) * 64 + b := by
 have := or_parts a b 6 hb
 rw [show (a : Int) * 64 = ((2 ^ 6 * a : Nat) : Int) by omega, or_i64 _ _ (by omega) (by omega), this]
 omega
theorem or64_i32 (a b : Nat) (ha : a < 33554432) (hb : b < 64) : bits .or .i32 ((a : Int) * 64) (b : Int) = (a : Int) * 64 + b := by
 have := or_parts a b 6 hb
 rw [show (a : Int) * 64 = ((2 ^ 6 * a : Nat) : Int) by omega, or_i32 _ _ (by omega) (by omega), this]
 omega
theorem mask63_u8 (a : Nat) (ha : a < 256) : bits .and .u8 (a : Int) 63 = ((a % 64 : Nat) : Int) := by
 rw [show (63 : Int) = ((63 : Nat) : Int) from rfl, and_u8 a 63 ha (by omega), show 63 = 2 ^ 6 - 1 from rfl, and_mask]
theorem mask15_u8 (a : Nat) (ha : a < 256) : bits .and .u8 (a : Int) 15 = ((a % 16 : Nat) : Int) := by
 rw [show (15 : Int) = ((15 : Nat) : Int) from rfl, and_u8 a 15 ha (by omega), show 15 = 2 ^ 4 - 1 from rfl, and_mask]
theorem mask7_u8 (a : Nat) (ha : a < 256) : bits .and .u8 (a : Int) 7 = ((a % 8 : Nat) : Int) := by
 rw [show (7 : Int) = ((7 : Nat) : Int) from rfl, and_u8 a 7 ha (by omega), show 7 = 2 ^ 3 - 1 from rfl, and_mask]
theorem mask31_u8 (a : Nat) (ha : a < 256) : bits .and .u8 (a : Int) 31 = ((a % 32 : Nat) : Int) := by
 rw [show (31 : Int) = ((31 : Nat) : Int) from rfl, and_u8 a 31 ha (by omega), show 31 = 2 ^ 5 - 1 from rfl, and_mask]
theorem mask192_u8 : ∀ a : Nat, a < 256 → (bits .and .u8 (a : Int) 192 = 128 ↔ a / 64 = 2) := by
 intro a ha
 rw [show (192 : Int) = ((192 : Nat) : Int) from rfl, and_u8 a 192 ha (by omega)]
 have : ∀ a < 256, (a &&& 192 = 128 ↔ a / 64 = 2) := by decide +kernel
 have := this a ha
 omega
theorem mask63_i64 (a : Nat) (ha : a < 9223372036854775808) : bits .and .i64 (a : Int) 63 = ((a % 64 : Nat) : Int) := by
 rw [show (63 : Int) = ((63 : Nat) : Int) from rfl, and_i64 a 63 ha (by omega), show 63 = 2 ^ 6 - 1 from rfl, and_mask]
theorem mask31_i64 (a : Nat) (ha : a < 9223372036854775808) : bits .and .i64 (a : Int) 31 = ((a % 32 : Nat) : Int) := by
 rw [show (31 : Int) = ((31 : Nat) : Int) from rfl, and_i64 a 31 ha (by omega), show 31 = 2 ^ 5 - 1 from rfl, and_mask]
theorem mask15_i64 (a : Nat) (ha : a < 9223372036854775808) : bits .and .i64 (a : Int) 15 = ((a % 16 : Nat) : Int) := by
 rw [show (15 : Int) = ((15 : Nat) : Int) from rfl, and_i64 a 15 ha (by omega), show 15 = 2 ^ 4 - 1 from rfl, and_mask]
theorem mask7_i64 (a : Nat) (ha : a < 9223372036854775808) : bits .and .i64 (a : Int) 7 = ((a % 8 : Nat) : Int) := by
 rw [show (7 : Int) = ((7 : Nat) : Int) from rfl, and_i64 a 7 ha (by omega), show 7 = 2 ^ 3 - 1 from rfl, and_mask]
theorem or_head (h b k c : Nat) (hh : h = 2 ^ k * c) (hb : b < 2 ^ k) (h1 : h < 4294967296) (h2 : b < 4294967296) : bits .or .i64 (h : Int) (b : Int) = ((h + b : Nat) : Int) := by
 rw [or_i64 _ _ (by omega) (by omega), hh, or_parts c b k hb]
end Go.Proofs.YtknfpggiigncpaaGreatDoor.P
end
section
namespace Go.Proofs.YtknfpggiigncpaaGreatDoor.P
open Go.RowKit YtknfpggiigncpaaGreatDoorW.PrintWords
def Args (g : Nat) (w : World) : Prop := ∀ k (h : k < 8), w.cell? ⟨g, 14 - 2 * k, none⟩ = some (.string ⟨#[keys8[k]]⟩) ∧ w.cell? ⟨g, 15 - 2 * k, none⟩ = some (.string ⟨(escByte keys8[k]).toArray⟩)
theorem Args.below {g : Nat} {w W : World} (h : Args g w) (hb : Below w.heap.size w W) : Args g W := fun k hk => ⟨cellBelow hb (h k hk).1, cellBelow hb (h k hk).2⟩
def EntB (m : Option (List UInt8)) (rb o : Nat) (w : World) : Prop := match m with
 | none => w.cell? ⟨rb, o, none⟩ = some (.slice none 0 0)
 | some n => ∃ g cap, rb < g ∧ w.cell? ⟨rb, o, none⟩ = some (.slice (some ⟨g, 0, none⟩) n.length cap) ∧ ∀ j v, (n.map fun b => Value.int .u8 (b.toNat : Int))[j]? = some v → w.cell? ((⟨g, 0, none⟩ : Addr).add j) = some v
structure BldAt (R G k : Nat) (w : World) : Prop where
 row : ∃ cur : Array Value, w.heap[R]? = some (.cells cur 218 (0, 0)) ∧ cur.size = 257 ∧ cur[256]? = some (.slice (some ⟨G, 0, none⟩) k 8) ∧
  ∀ o : Nat, o < 256 → EntB (if (UInt8.ofNat o) ∈ keys8.take k then repOf (UInt8.ofNat o) else none) R o w
 own : ∃ c2 : Array Value, w.heap[G]? = some (.cells c2 9 (0, 0)) ∧ c2.size = 8 ∧ ∀ i (h : i < 8), i < k → c2[i]? = some (.string ⟨#[keys8[i]]⟩)
theorem cell_congr {w W : World} {a : Addr} (h : W.heap[a.block]? = w.heap[a.block]?) : W.cell? a = w.cell? a := by
 unfold World.cell?
 rw [h]
theorem BldAt.congr {R G k : Nat} {w W : World} (h : BldAt R G k w) (hR : R = G + 1) (hW : ∀ q, G ≤ q → q < w.heap.size → W.heap[q]? = w.heap[q]?) : BldAt R G k W := by
 obtain ⟨⟨cur, hrow, hsz, h256, hent⟩, ⟨c2, hc2, hs2, hk2⟩⟩ := h
 have hRlt : R < w.heap.size := (Array.getElem?_eq_some_iff.1 hrow).1
 refine ⟨⟨cur, (hW R (by omega) hRlt).trans hrow, hsz, h256, fun o ho => ?_⟩, ⟨c2, (hW G (by omega) (by omega)).trans hc2, hs2, hk2⟩⟩
 have hold := hent o ho
 revert hold
 generalize (if UInt8.ofNat o ∈ keys8.take k then repOf (UInt8.ofNat o) else none) = m
 intro hold
 have hc : W.cell? ⟨R, o, none⟩ = w.cell? ⟨R, o, none⟩ := cell_congr (hW R (by omega) hRlt)
 cases m with
 | none => exact hc.trans hold
 | some n =>
  obtain ⟨g, cap, hg, h1, h2⟩ := hold
  refine ⟨g, cap, hg, hc.trans h1, fun j v hj => ?_⟩
  have h3 := h2 j v hj
  have hgl := World.block_lt_of_cell? w _ h3
  rw [← h3]
  refine cell_congr ?_
  have e0 : ((⟨g, 0, none⟩ : Addr).add j).block = g := by unfold Addr.add; split <;> rfl
  rw [e0] at hgl ⊢
  exact hW g (by omega) hgl
def Blk (B : Nat) (w : World) (a b c d e : Value) : Prop := w.heap[B]? = some (.cells #[a, b, c, d, e] 160 (0, 0))
theorem Blk.at_ {B : Nat} {w : World} {a b c d e : Value} (h : Blk B w a b c d e) (i : Nat) : w.cell? ⟨B, i, none⟩ = #[a, b, c, d, e][i]? := cell_of_row _ _ _ _ _ _ h
theorem Blk.free {B : Nat} {w : World} {a b c d e : Value} (h : Blk B w a b c d e) (i : Nat) : w.frozen? ⟨B, i, none⟩ = false := frozen_of_row _ _ _ _ _ h
theorem Blk.put {B : Nat} {w : World} {a b c d e : Value} (h : Blk B w a b c d e) (i : Nat) (v : Value) : (w.setCell ⟨B, i, none⟩ v).heap[B]? = some (.cells (#[a, b, c, d, e].setIfInBounds i v) 160 (0, 0)) := heap_setCell_same _ _ _ _ _ _ h
theorem Blk.below {B K : Nat} {w W : World} {a b c d e : Value} (h : Blk B w a b c d e) (hb : Below K w W) (hK : B < K) : Blk B W a b c d e := (hb.block B hK).trans h
theorem Blk.lt {B : Nat} {w : World} {a b c d e : Value} (h : Blk B w a b c d e) : B < w.heap.size := (Array.getElem?_eq_some_iff.1 h).1
end Go.Proofs.YtknfpggiigncpaaGreatDoor.P
end
section
namespace Go.Proofs.YtknfpggiigncpaaGreatDoor.B
open Go.RowKit YtknfpggiigncpaaGreatDoorW.PrintWords YtknfpggiigncpaaGreatDoorW.PrintLast YtknfpggiigncpaaGreatDoorW.PrintMore
attribute [local go_sem] max2_int min2_int max_two min_two max_three min_three max_four min_four
theorem info9 : (Tryz.prog.info? 9).map (fun i => (i.zero, i.size, i.bytes)) = some (some (.string ⟨#[]⟩), 1, 16) := by kernel_rfl
end Go.Proofs.YtknfpggiigncpaaGreatDoor.B
end
