/- Parts of the proof. -/
import Derived.Test.YtknfpggiigncpaaGreatDoorOt2
import Derived.Test.YtknfpggiigncpaaGreatDoorAx0
import Derived.Test.YtknfpggiigncpaaGreatDoorXCheck
import Derived.Test.YtknfpggiigncpaaGreatDoorXRune
import Derived.Test.YtknfpggiigncpaaGreatDoorXUnesc
import Derived.Test.YtknfpggiigncpaaGreatDoorXOnce
import Derived.Test.YtknfpggiigncpaaGreatDoorProg
import Derived.Below
import Derived.Deep.Draws
import Derived.Deep.AppendLies
import Derived.Maps.AppendAt
import Derived.OwnWalk
import Derived.Laws.BytesArg
import Derived.Laws.MakeOwn
import Derived.Laws.OwnMore
import Derived.Deep.OwnRows
import Derived.Tactics
import Derived.Lib.ConvBytes
import Derived.Laws.Slices
import Derived.WalkKit
import Derived.KernelRfl
import Derived.RowKit3
import Derived.Deep.LoopGhost
import Derived.Deep.QuietTactic
import Derived.BigQuiet
import Derived.WideLaws
import Derived.Deep.DeepCutAuto
import Derived.Deep.CutBlock
import Derived.Deep.RegionHeld3
import Derived.Laws.Rows
import Derived.Lib.AppendStr
import Derived.ArgAppend
import Derived.Laws.IdiomCopy
import Derived.OrdersHeld
import Derived.Laws.BitsLemmas
import Derived.RowKit
import Derived.Test.YtknfpggiigncpaaGreatDoorWWords
import Derived.Test.YtknfpggiigncpaaGreatDoorWLast
import Derived.Test.YtknfpggiigncpaaGreatDoorWTab
import Derived.Test.YtknfpggiigncpaaGreatDoorWMore
import Derived.Laws.StructEq
set_option linter.unusedVariables false
set_option linter.unusedSimpArgs false
section
namespace Go.Proofs.YtknfpggiigncpaaGreatDoor.E
open Go.RowKit P B
open YtknfpggiigncpaaGreatDoorW.PrintWords
def cntL : List S24 → Nat
 | [] => 0
 | ⟨a, b, q⟩ :: l => 1 + cntL q + cntL l
def smallL : List S24 → Prop
 | [] => True
 | ⟨a, b, q⟩ :: l => a.size + b.size < 2000 ∧ smallL q ∧ smallL l
def fitL : List S24 → Prop
 | [] => True
 | ⟨a, b, q⟩ :: l => a.size ≤ 140737488355328 ∧ b.size ≤ 140737488355328 ∧ q.length ≤ 140737488355328 ∧ fitL q ∧ fitL l
theorem w_id (x : Int) (h0 : 0 ≤ x) (h1 : x < 4611686018427387904) : wrap64 x = x := by unfold wrap64; omega
theorem rd_pre (p l : List S24) (x : S24) : rd_T24 (p ++ x :: l) (p.length : Int) = x := by
 rw [rd_get _ _ (by simp)]
 simp
theorem many_ev : ∀ (l p : List S24) (n : Nat), fitL l → (p ++ l).length ≤ 140737488355328 → n ≤ 562949953421312 →
  ∃ r : Nat, n ≤ r ∧ r ≤ 562949953421312 ∧ Ev (fun k => remitterlaw10_many.l0 k (p ++ l) (n : Int) (p.length : Int)) (r : Int) ∧ (r < 2000 → r = n + cntL l ∧ smallL l)
 | [], p, n, hf, hl, hn => by
  refine ⟨n, Nat.le_refl _, hn, ⟨1, fun k hk => ?_⟩, fun _ => ⟨by simp [cntL], by simp [smallL]⟩⟩
  obtain ⟨k, rfl⟩ : ∃ j, k = j + 1 := ⟨k - 1, by omega⟩
  simp only [remitterlaw10_many.l0]
  rw [if_neg (by simp)]
 | ⟨a, b, q⟩ :: l, p, n, hf, hl, hn => by
  have hL : (p ++ (⟨a, b, q⟩ : S24) :: l).length = p.length + l.length + 1 := by simp; omega
  by_cases h2 : n < 2000
  ·
   simp only [fitL] at hf
   obtain ⟨ha, hb, hq, hfq, hfl⟩ := hf
   obtain ⟨m, hm1, hm2, hm3, hm4⟩ := many_ev q [] (n + 1 + (a.size + b.size) / 2000 * 2000) hfq (by simpa using hq) (by omega)
   obtain ⟨r, hr1, hr2, hr3, hr4⟩ := many_ev l (p ++ [⟨a, b, q⟩]) m hfl (by rw [List.append_assoc]; exact hl) hm2
   obtain ⟨K1, hK1⟩ := hm3
   obtain ⟨K2, hK2⟩ := hr3
   refine ⟨r, by omega, hr2, ⟨K1 + K2 + 2, fun k hk => ?_⟩, fun h => ?_⟩
   ·
    obtain ⟨k, rfl⟩ : ∃ j, k = j + 2 := ⟨k - 2, by omega⟩
    have h1 := hK1 k (by omega)
    have h3 := hK2 (k + 1) (by omega)
    simp only [List.nil_append, List.length_nil] at h1
    simp only [List.append_assoc, List.singleton_append, List.length_append, List.length_singleton] at h3
    dsimp only
    rw [remitterlaw10_many.l0, if_pos (by rw [hL]; omega), if_pos (by omega), if_pos (by omega), rd_pre]
    have e : wrap64 (wrap64 ((n : Int) + 1) + wrap64 (wrap64 (Int.tdiv (wrap64 ((a.size : Int) + (b.size : Int))) 2000) * 2000)) = ((n + 1 + (a.size + b.size) / 2000 * 2000 : Nat) : Int) := by
     have hz : (((a.size + b.size) / 2000 * 2000 : Nat) : Int) = ((a.size : Int) + (b.size : Int)) / 2000 * 2000 := by omega
     have hz2 : (a.size + b.size) / 2000 * 2000 ≤ a.size + b.size := Nat.div_mul_le_self _ _
     rw [w_id ((a.size : Int) + (b.size : Int)) (by omega) (by omega), Int.tdiv_eq_ediv_of_nonneg (by omega), w_id (((a.size : Int) + (b.size : Int)) / 2000) (by omega) (by omega), ← hz]
     generalize (a.size + b.size) / 2000 * 2000 = z at *
     rw [w_id (z : Int) (by omega) (by omega), w_id ((n : Int) + 1) (by omega) (by omega), w_id _ (by omega) (by omega)]
     omega
    dsimp only
    rw [e, remitterlaw10_many.f]
    have h1' : remitterlaw10_many.l0 k q ((n + 1 + (a.size + b.size) / 2000 * 2000 : Nat) : Int) 0 = some (m : Int) := h1
    rw [h1', Option.bind_some, w_succ p.length (by simp at hl; omega)]
    exact h3
   ·
    obtain ⟨e1, s1⟩ := hr4 h
    obtain ⟨e2, s2⟩ := hm4 (by omega)
    simp only [cntL, smallL]
    exact ⟨by omega, by omega, s2, s1⟩
  ·
   refine ⟨n, Nat.le_refl _, hn, ⟨1, fun k hk => ?_⟩, fun h => absurd h h2⟩
   obtain ⟨k, rfl⟩ : ∃ j, k = j + 1 := ⟨k - 1, by omega⟩
   dsimp only
   rw [remitterlaw10_many.l0, if_pos (by rw [hL]; omega), if_neg (by omega)]
termination_by l => SizeOf.sizeOf l
theorem great_ev (l : List S24) (hf : fitL l) (hl : l.length ≤ 140737488355328) : ∃ g : Bool, Ev (fun k => remitterlaw10_Great.f k l) g ∧ (g = false → cntL l ≤ 1000 ∧ smallL l) := by
 obtain ⟨r, _, hr, ⟨K, hK⟩, h⟩ := many_ev l [] 0 hf (by simpa using hl) (by omega)
 refine ⟨decide ((r : Int) > 1000), ⟨K + 1, fun k hk => ?_⟩, fun hg => ?_⟩
 ·
  obtain ⟨k, rfl⟩ : ∃ j, k = j + 1 := ⟨k - 1, by omega⟩
  have h1 : remitterlaw10_many.l0 k l 0 0 = some (r : Int) := hK k (by omega)
  dsimp only
  rw [remitterlaw10_Great.f, remitterlaw10_many.f, h1, Option.bind_some]
 ·
  have := of_decide_eq_false hg
  obtain ⟨e, s⟩ := h (by omega)
  exact ⟨by omega, s⟩
theorem len_cnt : ∀ l : List S24, l.length ≤ cntL l
 | [] => by simp
 | ⟨a, b, q⟩ :: l => by
  have := len_cnt l
  simp only [cntL, List.length_cons]
  omega
theorem cnt_mem : ∀ (l : List S24) (k : S24), k ∈ l → 1 + cntL k.f2 ≤ cntL l
 | [], k, h => by cases h
 | ⟨a, b, q⟩ :: l, k, h => by
  simp only [cntL]
  rcases List.mem_cons.1 h with rfl | h
  ·
   simp only; omega
  ·
   have := cnt_mem l k h; omega
theorem small_mem : ∀ (l : List S24) (k : S24), k ∈ l → smallL l → k.f0.size + k.f1.size < 2000 ∧ smallL k.f2
 | [], k, h, _ => by cases h
 | ⟨a, b, q⟩ :: l, k, h, hs => by
  simp only [smallL] at hs
  rcases List.mem_cons.1 h with rfl | h
  ·
   exact ⟨hs.1, hs.2.1⟩
  ·
   exact small_mem l k h hs.2.2
theorem smallT_of : ∀ (d : Nat) (v : S24), v.f0.size + v.f1.size < 2000 → smallL v.f2 → cntL v.f2 ≤ 1000 → smallT d v
 | 0, v, h1, h2, h3 => ⟨by omega, by omega, by have := len_cnt v.f2; omega⟩
 | d + 1, v, h1, h2, h3 => ⟨⟨by omega, by omega, by have := len_cnt v.f2; omega⟩, fun k hk => by
   obtain ⟨g1, g2⟩ := small_mem _ k hk h2
   have := cnt_mem _ k hk
   exact smallT_of d k g1 g2 (by omega)⟩
end Go.Proofs.YtknfpggiigncpaaGreatDoor.E
end
section
namespace Go.Proofs.YtknfpggiigncpaaGreatDoor.E
open Go.RowKit YtknfpggiigncpaaGreatDoorW.PrintWords YtknfpggiigncpaaGreatDoorW.PrintLast YtknfpggiigncpaaGreatDoorW.PrintMore
attribute [local go_sem] max2_int min2_int max_two min_two max_three min_three max_four min_four
/-! ### remitterref10_Same: function 20 -/
mutual
def remitterref10_Same.j0 : Nat → Bool → ByteArray → ByteArray → List (S24) → ByteArray → ByteArray → List (S24) → Option (Bool)
 | 0, _, _, _, _, _, _, _ => none
 | k + 1, x26, x107000, x107001, x107002, x108000, x108001, x108002 => if x26 = true then (some false) else (remitterref10_Same.l0 k 0 x107000 x107001 x107002 x108000 x108001 x108002)
def remitterref10_Same.l0 : Nat → Int → ByteArray → ByteArray → List (S24) → ByteArray → ByteArray → List (S24) → Option (Bool)
 | 0, _, _, _, _, _, _, _ => none
 | k + 1, x5, x107000, x107001, x107002, x108000, x108001, x108002 => if x5 < (x107002.length : Int) then (if 0 ≤ x5 then (if x5 < (x108002.length : Int) then ((remitterref10_Same.f k ((rd_T24 x107002 x5).f0) ((rd_T24 x107002 x5).f1) ((rd_T24 x107002 x5).f2) ((rd_T24 x108002 x5).f0) ((rd_T24 x108002 x5).f1) ((rd_T24 x108002 x5).f2)).bind fun t110 => (if t110 = true then (remitterref10_Same.l0 k (wrap64 (x5 + 1)) x107000 x107001 x107002 x108000 x108001 x108002) else (some false))) else (none)) else (none)) else (some true)
def remitterref10_Same.f : Nat → ByteArray → ByteArray → List (S24) → ByteArray → ByteArray → List (S24) → Option (Bool)
 | 0, _, _, _, _, _, _ => none
 | k + 1, a0_0, a0_1, l0_2, a1_0, a1_1, l1_2 => if a0_0.toList = a1_0.toList then (if a0_1.toList = a1_1.toList then (remitterref10_Same.j0 k ((l0_2.length : Int) != (l1_2.length : Int)) a0_0 a0_1 l0_2 a1_0 a1_1 l1_2) else (remitterref10_Same.j0 k true a0_0 a0_1 l0_2 a1_0 a1_1 l1_2)) else (remitterref10_Same.j0 k true a0_0 a0_1 l0_2 a1_0 a1_1 l1_2)
end
def remitterref10_Same.T6 : Bool × List (List Nat × List Nat) := (true, [([], []), ([0], [0]), ([], []), ([1, 2], [1, 2]), ([3], [3]), ([], []), ([5], [5]), ([], []), ([6, 7], [6, 7]), ([8], [8]), ([4, 9], [4, 9]), ([10], [10])])
def remitterref10_Same.B6 : List Nat := [0, 1, 0, 7, 15, 0, 32, 0, 224, 480, 1023, 2047]
theorem remitterref10_Same.tab6 : rtab .any (opsOf Tryz.f20 6) = remitterref10_Same.T6 := by kernel_rfl
theorem remitterref10_Same.bits6 : waitsOk remitterref10_Same.T6.2 remitterref10_Same.B6 = true := by kernel_rfl
end Go.Proofs.YtknfpggiigncpaaGreatDoor.E
end
section
namespace Go.Proofs.YtknfpggiigncpaaGreatDoor.E
open Go.RowKit P B
open YtknfpggiigncpaaGreatDoorW.PrintWords
theorem same_l0 : ∀ (l p : List S24) (a b c d : ByteArray), cntL l ≤ 100000 → (p ++ l).length ≤ 100000 →
  Ev (fun k => remitterref10_Same.l0 k (p.length : Int) a b (p ++ l) c d (p ++ l)) true
 | [], p, a, b, c, d, hn, hl => by
  refine ⟨1, fun k hk => ?_⟩
  obtain ⟨k, rfl⟩ : ∃ j, k = j + 1 := ⟨k - 1, by omega⟩
  simp only [remitterref10_Same.l0]
  rw [if_neg (by simp)]
 | ⟨x, y, q⟩ :: l, p, a, b, c, d, hn, hl => by
  have hL : (p ++ (⟨x, y, q⟩ : S24) :: l).length = p.length + l.length + 1 := by simp; omega
  simp only [cntL] at hn
  obtain ⟨K1, hK1⟩ := same_l0 q [] x y x y (by omega) (by have := len_cnt q; simp; omega)
  obtain ⟨K2, hK2⟩ := same_l0 l (p ++ [⟨x, y, q⟩]) a b c d (by omega) (by rw [List.append_assoc]; exact hl)
  refine ⟨K1 + K2 + 3, fun k hk => ?_⟩
  obtain ⟨k, rfl⟩ : ∃ j, k = j + 3 := ⟨k - 3, by omega⟩
  have h1 : remitterref10_Same.l0 k 0 x y q x y q = some true := hK1 k (by omega)
  have h3 := hK2 (k + 2) (by omega)
  simp only [List.append_assoc, List.singleton_append, List.length_append, List.length_singleton] at h3
  dsimp only
  rw [remitterref10_Same.l0, if_pos (by rw [hL]; omega), if_pos (by omega), if_pos (by rw [hL]; omega), rd_pre]
  dsimp only
  rw [remitterref10_Same.f, if_pos rfl, if_pos rfl, bne_self_eq_false, remitterref10_Same.j0, if_neg (by simp), h1, Option.bind_some, if_pos rfl, w_succ p.length (by omega), h3]
termination_by l => SizeOf.sizeOf l
theorem same_ev (v : S24) (h : cntL v.f2 ≤ 1000) : Ev (fun k => remitterref10_Same.f k v.f0 v.f1 v.f2 v.f0 v.f1 v.f2) true := by
 obtain ⟨K, hK⟩ := same_l0 v.f2 [] v.f0 v.f1 v.f0 v.f1 (by omega) (by have := len_cnt v.f2; simp; omega)
 refine ⟨K + 2, fun k hk => ?_⟩
 obtain ⟨k, rfl⟩ : ∃ j, k = j + 2 := ⟨k - 2, by omega⟩
 have h1 : remitterref10_Same.l0 k 0 v.f0 v.f1 v.f2 v.f0 v.f1 v.f2 = some true := hK k (by omega)
 dsimp only
 rw [remitterref10_Same.f, if_pos rfl, if_pos rfl, bne_self_eq_false, remitterref10_Same.j0, if_neg (by simp), h1]
end Go.Proofs.YtknfpggiigncpaaGreatDoor.E
end
section
namespace Go.Proofs.YtknfpggiigncpaaGreatDoor.E
open P Go.RowKit YtknfpggiigncpaaGreatDoorW.PrintWords YtknfpggiigncpaaGreatDoorW.PrintLast YtknfpggiigncpaaGreatDoorW.PrintMore
attribute [local go_sem] max2_int min2_int max_two min_two max_three min_three max_four min_four
/-! ### out_good: function 46 -/
/-! ### stringslite_HasPrefix: function 122 -/
/-! ### strings_HasPrefix: function 80 -/
/-! ### out_attribute: function 51 -/
end Go.Proofs.YtknfpggiigncpaaGreatDoor.E
end
section
namespace Go.Proofs.YtknfpggiigncpaaGreatDoor.C
open Go.RowKit YtknfpggiigncpaaGreatDoorW.PrintWords YtknfpggiigncpaaGreatDoorW.PrintLast YtknfpggiigncpaaGreatDoorW.PrintMore
attribute [local go_sem] max2_int min2_int max_two min_two max_three min_three max_four min_four
/-! #### struct type 77 -/
structure S77 where
 f0 : ByteArray
 f1 : ByteArray
def z77 : S77 := ⟨(⟨#[]⟩ : ByteArray), (⟨#[]⟩ : ByteArray)⟩
def k77 : Kd S77 := Kd.iso (Kd.pair Kd.string Kd.string) (fun x : S77 => (x.f0, x.f1))
theorem k77_open {w : World} {x : S77} {cs : List Value} (h : k77.K w x cs) : cs = [.string x.f0, .string x.f1] := by
 obtain ⟨_, _, rfl, rfl, rfl⟩ := h
 exact rfl
theorem k77_mkM (w : World) (base : Nat) (ok : Nat → Prop) (x : S77)  : k77.M w base ok x [.string x.f0, .string x.f1] := ⟨[.string x.f0], [.string x.f1], rfl, rfl, rfl⟩
def rd_T77 (xs : List S77) (i : Int) : S77 := xs.getD i.toNat z77
theorem at_T77 {w : World} {A : Option Addr} {n : Nat} {xs : List S77} (h : Kd.C k77 w A n xs) (i : Int) (h0 : 0 ≤ i) (h1 : i < n) : ∃ ad , A = some ad ∧ w.cell? (ad.add (i.toNat * 2)) = some (.string (rd_T77 xs i).f0) ∧ w.cell? ⟨(ad.add (i.toNat * 2)).block, (ad.add (i.toNat * 2)).off + 1, none⟩ = some (.string (rd_T77 xs i).f1) := by
 obtain ⟨ad, c, e, _, hK, hc0⟩ := Kd.C_get h z77 i h0 h1
 have hc : ∀ j u, c[j]? = some u → w.cell? (ad.add (i.toNat * 2 + j)) = some u := hc0
 obtain rfl := k77_open hK
 exact ⟨ad, e, hc 0 _ rfl, by rw [← add_field _ _ 1 (by omega)]; exact hc 1 _ rfl⟩
/-! #### struct type 44 -/
structure S44 where
 f0 : Int
 f1 : ByteArray
 f2 : ByteArray
 f3 : (List S77)
 f4 : Bool
 f5 : Int
def z44 : S44 := ⟨(0 : Int), (⟨#[]⟩ : ByteArray), (⟨#[]⟩ : ByteArray), ([] : List S77), false, (0 : Int)⟩
def k44 : Kd S44 := Kd.iso (Kd.pair (Kd.int .u8) (Kd.pair Kd.string (Kd.pair Kd.string (Kd.pair (Kd.slice 77 k77) (Kd.pair Kd.bool (Kd.int .i64)))))) (fun x : S44 => (x.f0, x.f1, x.f2, x.f3, x.f4, x.f5))
theorem k44_open {w : World} {x : S44} {cs : List Value} (h : k44.K w x cs) : ∃ A3 c3, cs = [.int .u8 x.f0, .string x.f1, .string x.f2, .slice A3 x.f3.length c3, .bool x.f4, .int .i64 x.f5] ∧ x.f3.length ≤ c3 ∧ k77.C w A3 x.f3.length x.f3 := by
 obtain ⟨_, _, rfl, rfl, ⟨_, _, rfl, rfl, ⟨_, _, rfl, rfl, ⟨_, _, rfl, ⟨A3, c3, rfl, l3, g3⟩, ⟨_, _, rfl, rfl, rfl⟩⟩⟩⟩⟩ := h
 exact ⟨A3, c3, rfl, l3, g3⟩
theorem k44_mkM (w : World) (base : Nat) (ok : Nat → Prop) (x : S44) {v3 : Value} (g3 : k77.R 77 w base ok v3 x.f3) : k44.M w base ok x [.int .u8 x.f0, .string x.f1, .string x.f2, v3, .bool x.f4, .int .i64 x.f5] := ⟨[.int .u8 x.f0], [.string x.f1, .string x.f2, v3, .bool x.f4, .int .i64 x.f5], rfl, rfl, ⟨[.string x.f1], [.string x.f2, v3, .bool x.f4, .int .i64 x.f5], rfl, rfl, ⟨[.string x.f2], [v3, .bool x.f4, .int .i64 x.f5], rfl, rfl, ⟨[v3], [.bool x.f4, .int .i64 x.f5], rfl, ⟨v3, rfl, g3⟩, ⟨[.bool x.f4], [.int .i64 x.f5], rfl, rfl, rfl⟩⟩⟩⟩⟩
def rd_T44 (xs : List S44) (i : Int) : S44 := xs.getD i.toNat z44
theorem at_T44 {w : World} {A : Option Addr} {n : Nat} {xs : List S44} (h : Kd.C k44 w A n xs) (i : Int) (h0 : 0 ≤ i) (h1 : i < n) : ∃ ad A3 c3, A = some ad ∧ w.cell? (ad.add (i.toNat * 6)) = some (.int .u8 (rd_T44 xs i).f0) ∧ w.cell? ⟨(ad.add (i.toNat * 6)).block, (ad.add (i.toNat * 6)).off + 1, none⟩ = some (.string (rd_T44 xs i).f1) ∧ w.cell? ⟨(ad.add (i.toNat * 6)).block, (ad.add (i.toNat * 6)).off + 2, none⟩ = some (.string (rd_T44 xs i).f2) ∧ w.cell? ⟨(ad.add (i.toNat * 6)).block, (ad.add (i.toNat * 6)).off + 3, none⟩ = some (.slice A3 (rd_T44 xs i).f3.length c3) ∧ w.cell? ⟨(ad.add (i.toNat * 6)).block, (ad.add (i.toNat * 6)).off + 4, none⟩ = some (.bool (rd_T44 xs i).f4) ∧ w.cell? ⟨(ad.add (i.toNat * 6)).block, (ad.add (i.toNat * 6)).off + 5, none⟩ = some (.int .i64 (rd_T44 xs i).f5) ∧ (rd_T44 xs i).f3.length ≤ c3 ∧ k77.C w A3 (rd_T44 xs i).f3.length (rd_T44 xs i).f3 := by
 obtain ⟨ad, c, e, _, hK, hc0⟩ := Kd.C_get h z44 i h0 h1
 have hc : ∀ j u, c[j]? = some u → w.cell? (ad.add (i.toNat * 6 + j)) = some u := hc0
 obtain ⟨A3, c3, rfl, l3, g3⟩ := k44_open hK
 exact ⟨ad, A3, c3, e, hc 0 _ rfl, by rw [← add_field _ _ 1 (by omega)]; exact hc 1 _ rfl, by rw [← add_field _ _ 2 (by omega)]; exact hc 2 _ rfl, by rw [← add_field _ _ 3 (by omega)]; exact hc 3 _ rfl, by rw [← add_field _ _ 4 (by omega)]; exact hc 4 _ rfl, by rw [← add_field _ _ 5 (by omega)]; exact hc 5 _ rfl, l3, g3⟩
/-! #### struct type 92 -/
/-! #### struct type 88 -/
end Go.Proofs.YtknfpggiigncpaaGreatDoor.C
end
