/- text.Check as a plain function over lists of bytes: how it goes over joined and over escaped texts. -/
import Derived.Test.YtknfpggiigncpaaGreatDoorXTok8
import Derived.Defers
import Derived.Recover
import Derived.Laws.Pointers
import Derived.RegionTactic
import Derived.BigRegion
import Derived.Test.YtknfpggiigncpaaGreatDoorXRune
import Derived.Laws.IdiomCopy
import Derived.Laws.CopyOwn
import Derived.Deep.RegionLaw
import Derived.Laws.Cover3
import Derived.Laws.OwnMore
import Derived.Laws.CopyRow
import Derived.Laws.IdiomStrings
import Derived.Deep.CutRange
import Derived.Deep.QuietTactic
import Derived.BigQuiet
set_option maxHeartbeats 1000000
set_option maxRecDepth 100000
set_option linter.unusedVariables false
set_option linter.unusedSimpArgs false
section
namespace Go.Proofs.YtknfpggiigncpaaGreatDoor.C
open Go.RowKit P A YtknfpggiigncpaaGreatDoorW.PrintWords YtknfpggiigncpaaGreatDoorW.PrintLast YtknfpggiigncpaaGreatDoorW.PrintMore
def Res3 (n : Nat) (v0 v1 v2 : Value) (w : World) : Prop := w.heap[n]? = some (.cells #[v0] 34 (0, 0)) ∧ w.heap[n + 1]? = some (.cells #[v1] 3 (0, 0)) ∧ w.heap[n + 2]? = some (.cells #[v2] 28 (0, 0))
theorem Res3.below {n : Nat} {v0 v1 v2 : Value} {w w1 : World} (h : Res3 n v0 v1 v2 w) (hb : ∀ k, k ≤ n + 2 → w1.heap[k]? = w.heap[k]?) : Res3 n v0 v1 v2 w1 := ⟨(hb _ (by omega)).trans h.1, (hb _ (by omega)).trans h.2.1, (hb _ (by omega)).trans h.2.2⟩
theorem res3_set {n : Nat} {v0 v1 v2 : Value} {w : World} (h : Res3 n v0 v1 v2 w) (x y z : Value) : Res3 n x y z (((w.setCell ⟨n, 0, none⟩ x).setCell ⟨n + 1, 0, none⟩ y).setCell ⟨n + 2, 0, none⟩ z) := by
 refine ⟨?_, ?_, ?_⟩
 ·
  rw [Below.heap_setCell _ _ _ _ (show n ≠ n + 2 by omega), Below.heap_setCell _ _ _ _ (show n ≠ n + 1 by omega)]
  exact heap_setCell_same _ _ _ _ _ _ h.1
 ·
  rw [Below.heap_setCell _ _ _ _ (show n + 1 ≠ n + 2 by omega)]
  exact heap_setCell_same _ _ _ _ _ _ ((Below.heap_setCell _ _ _ _ (show n + 1 ≠ n by omega)).trans h.2.1)
 ·
  exact heap_setCell_same _ _ _ _ _ _ ((Below.heap_setCell _ _ _ _ (show n + 2 ≠ n + 1 by omega)).trans ((Below.heap_setCell _ _ _ _ (show n + 2 ≠ n by omega)).trans h.2.2))
def CatchPost (n a : Nat) (er : Int) (w : World) (e : Exit) (a' : Act) (w' : World) : Prop := e = .normal ∧ a'.defers = [] ∧ Res3 n (.slice none 0 0) (.int .i64 a) (.int .i64 er) w' ∧ Below n w w'
theorem catch_panicking (n : Nat) (v0 v1 v2 : Value) (a : Nat) (er : Int) (w : World) (h : Res3 n v0 v1 v2 w) :
  CallsD Tryz.prog 54 #[.pointer (some ⟨n, 0, none⟩), .pointer (some ⟨n + 1, 0, none⟩), .pointer (some ⟨n + 2, 0, none⟩)] (.panicking [{ v := wrongV a er, recovered := false }]) w fun e u' w' =>
   e = .returned (.tuple #[]) ∧ u' = .panicking [{ v := wrongV a er, recovered := true }] ∧ Res3 n (.slice none 0 0) (.int .i64 a) (.int .i64 er) w' ∧ Below n w w' := by
 have k0 := crow 0 v0 h.1
 have k1 := crow 0 v1 h.2.1
 have k2 := crow 0 v2 h.2.2
 have f0 := frozen_of_row _ n 0 _ _ h.1
 have f1 := frozen_of_row _ (n + 1) 0 _ _ h.2.1
 have f2 := frozen_of_row _ (n + 2) 0 _ _ h.2.2
 have hta : ∀ w : World, (Instr.typeAssert (.iface 79 (.agg #[.int .i64 (a : Int), .int .i64 er])) 20 79 true).run Tryz.prog w = .ok (.tuple #[.agg #[.int .i64 (a : Int), .int .i64 er], .bool true]) w := fun _ => by kernel_rfl
 have hn0 : n < w.heap.size := (Array.getElem?_eq_some_iff.1 h.1).1
 have hn1 : n + 1 < w.heap.size := (Array.getElem?_eq_some_iff.1 h.2.1).1
 have hn2 : n + 2 < w.heap.size := (Array.getElem?_eq_some_iff.1 h.2.2).1
 have H := Lib.hid h
 clear h
 refine callsD_of_wpS Tryz.func54 rfl fun c₀ cs hu => ?_
 apply wpS_seq
 apply wpS_region
 simp [wpOpsS, go_sem, recoverD, hu, Tryz.ntmps54, Exit.thenS, wrongV]
 refine wpS_of_wp (Code.wp_mono (Q := CatchPost n a er w) ?_ ?_)
 ·
  rintro e a' w' ⟨rfl, hd, h1, h2⟩
  refine ⟨hd, _, rfl, .tuple #[], ?_, rfl, rfl, h1, h2⟩
  simp [results, Tryz.results54, go_sem]
 ·
  change Code.wp Tryz.prog _ (CatchPost n a er w) { tmps := #[.pointer (some ⟨n, 0, none⟩), .pointer (some ⟨n + 1, 0, none⟩), .pointer (some ⟨n + 2, 0, none⟩), .iface 79 (.agg #[.int .i64 a, .int .i64 er]), undef, undef, .iface 79 (.agg #[.int .i64 a, .int .i64 er]), undef, undef, undef, undef, undef, undef, undef, undef, undef, undef, undef, undef, undef, undef], defers := [] } w
  go_wp2
  go_region
  all_goals
   exact ⟨rfl, rfl, (res3_set H.out _ _ _).below (fun k hk => Below.heap_alloc _ _ _ (by simp [World.setCell]; omega)), ((((Below.refl n w).setCell (p := ⟨n, 0, none⟩) (Nat.le_refl _) _).setCell (p := ⟨n + 1, 0, none⟩) (Nat.le_succ _) _).setCell (p := ⟨n + 2, 0, none⟩) (by show n ≤ n + 2; omega) _).alloc (by simp [World.setCell]; omega) _ |>.drew⟩
theorem catch_idle (p0 p1 p2 : Addr) (w : World) :
  CallsD Tryz.prog 54 #[.pointer (some p0), .pointer (some p1), .pointer (some p2)] .returning w fun e u' w' => e = .returned (.tuple #[]) ∧ u' = .returning ∧ w' = w := by
 refine callsD_of_wpS Tryz.func54 rfl fun c₀ cs hu => ?_
 apply wpS_seq
 apply wpS_region
 simp [wpOpsS, go_sem, recoverD, hu, Tryz.ntmps54, Exit.thenS]
 refine wpS_of_wp (Code.wp_mono (Q := fun e a' w' => e = .normal ∧ a'.defers = [] ∧ w' = w) ?_ ?_)
 ·
  rintro e a' w' ⟨rfl, hd, rfl⟩
  refine ⟨hd, .returning, ?_, .tuple #[], ?_, rfl, rfl, rfl⟩
  ·
   cases c₀
   simp_all
  ·
   simp [results, Tryz.results54, go_sem]
 ·
  change Code.wp Tryz.prog _ _ { tmps := #[.pointer (some p0), .pointer (some p1), .pointer (some p2), .nilIface, undef, undef, .nilIface, undef, undef, undef, undef, undef, undef, undef, undef, undef, undef, undef, undef, undef, undef], defers := [] } w
  go_wp2
end Go.Proofs.YtknfpggiigncpaaGreatDoor.C
end
section
namespace Go.Proofs.YtknfpggiigncpaaGreatDoor.P
open Go.RowKit YtknfpggiigncpaaGreatDoorW.PrintWords
def repOf (b : UInt8) : Option (List UInt8) :=
 if b = 38 then some [38, 97, 109, 112, 59] else if b = 60 then some [38, 108, 116, 59] else if b = 62 then some [38, 103, 116, 59]
 else if b = 34 then some [38, 113, 117, 111, 116, 59] else if b = 39 then some [38, 97, 112, 111, 115, 59] else if b = 9 then some [38, 35, 120, 57, 59]
 else if b = 10 then some [38, 35, 120, 65, 59] else if b = 13 then some [38, 35, 120, 68, 59] else none
@[go_sem, simp] theorem byte_of_one (b : UInt8) (h : 0 < (ByteArray.mk #[b]).size) : (ByteArray.mk #[b])[0] = b := rfl
def keys8 : List UInt8 := [13, 10, 9, 39, 34, 62, 60, 38]
def EntAt (m : Option (List UInt8)) (rb o : Nat) (w : World) : Prop := match m with
 | none => w.cell? ⟨rb, o, none⟩ = some (.slice none 0 0)
 | some n => ∃ g cap, w.cell? ⟨rb, o, none⟩ = some (.slice (some ⟨g, 0, none⟩) n.length cap) ∧ ∀ j v, (n.map fun b => Value.int .u8 (b.toNat : Int))[j]? = some v → w.cell? ((⟨g, 0, none⟩ : Addr).add j) = some v
structure Rep (rb : Nat) (w : World) : Prop where
 ents : ∀ o : Nat, o < 256 → EntAt (repOf (UInt8.ofNat o)) rb o w
 keys : ∃ g cap, w.cell? ⟨rb, 256, none⟩ = some (.slice (some ⟨g, 0, none⟩) 8 cap) ∧ ∀ i (h : i < 8), w.cell? ⟨g, i, none⟩ = some (.string ⟨#[keys8[i]]⟩)
theorem EntAt.below {m : Option (List UInt8)} {rb o : Nat} {w W : World} (h : EntAt m rb o w) (hb : Below w.heap.size w W) : EntAt m rb o W := by
 cases m with
 | none => exact cellBelow hb h
 | some n =>
  obtain ⟨g, cap, h1, h2⟩ := h
  exact ⟨g, cap, cellBelow hb h1, fun j v hj => cellBelow hb (h2 j v hj)⟩
theorem Rep.below {rb : Nat} {w W : World} (h : Rep rb w) (hb : Below w.heap.size w W) : Rep rb W :=
 ⟨fun o ho => (h.ents o ho).below hb, h.keys.elim fun g hg => hg.elim fun cap hc => ⟨g, cap, cellBelow hb hc.1, fun i hi => cellBelow hb (hc.2 i hi)⟩⟩
theorem escByte_len (b : UInt8) : 1 ≤ (escByte b).length ∧ (escByte b).length ≤ 6 := by
 unfold escByte
 repeat' split
 all_goals simp
theorem escL_cons (b : UInt8) (l : List UInt8) : escL (b :: l) = escByte b ++ escL l := rfl
end Go.Proofs.YtknfpggiigncpaaGreatDoor.P
end
section
namespace Go.Proofs.YtknfpggiigncpaaGreatDoor.P
def isC (b : UInt8) : Bool := b.toNat / 64 == 2
def decV (b v0 v1 v2 : Nat) (c1 c2 c3 : Bool) : Nat × Nat :=
 if b < 128 then (b, 1)
 else if b / 32 == 6 && c1 then
  if (b % 32) * 64 + v0 % 64 ≥ 128 then ((b % 32) * 64 + v0 % 64, 2) else (65533, 1)
 else if b / 16 == 14 && c1 && c2 then
  if (b % 16) * 4096 + (v0 % 64) * 64 + v1 % 64 ≥ 2048 && Utf8.valid ((b % 16) * 4096 + (v0 % 64) * 64 + v1 % 64 : Nat) then ((b % 16) * 4096 + (v0 % 64) * 64 + v1 % 64, 3) else (65533, 1)
 else if b / 8 == 30 && c1 && c2 && c3 then
  if (b % 8) * 262144 + (v0 % 64) * 4096 + (v1 % 64) * 64 + v2 % 64 ≥ 65536 && Utf8.valid ((b % 8) * 262144 + (v0 % 64) * 4096 + (v1 % 64) * 64 + v2 % 64 : Nat) then ((b % 8) * 262144 + (v0 % 64) * 4096 + (v1 % 64) * 64 + v2 % 64, 4) else (65533, 1)
 else (65533, 1)
def decC (b : UInt8) (l : List UInt8) : Nat × Nat := decV b.toNat (l.getD 0 0).toNat (l.getD 1 0).toNat (l.getD 2 0).toNat (decide (0 < l.length)) (decide (1 < l.length)) (decide (2 < l.length))
theorem tw_len : ∀ (r : List UInt8) (k : Nat), k < (r.takeWhile isC).length ↔ ∀ j, j ≤ k → j < r.length ∧ isC (r.getD j 0) = true
 | [], k => by
  simp
  exact ⟨0, Nat.zero_le _⟩
 | x :: r, k => by
  rw [List.takeWhile_cons]
  cases hx : isC x with
  | false =>
   simp only [Bool.false_eq_true, if_false, List.length_nil, Nat.not_lt_zero, false_iff]
   intro h
   have := (h 0 (Nat.zero_le _)).2
   simp [hx] at this
  | true =>
   simp only [if_true, List.length_cons]
   cases k with
   | zero =>
    simp only [Nat.zero_lt_succ, true_iff]
    intro j hj
    obtain rfl : j = 0 := by omega
    simpa using hx
   | succ k =>
    rw [Nat.add_lt_add_iff_right, tw_len r k]
    constructor
    ·
     intro h j hj
     cases j with
     | zero => simpa using hx
     | succ j =>
      have := h j (by omega)
      simpa using this
    ·
     intro h j hj
     have := h (j + 1) (by omega)
     simpa using this
theorem tw_get : ∀ (r : List UInt8) (k : Nat), k < (r.takeWhile isC).length → (r.takeWhile isC).getD k 0 = r.getD k 0
 | [], k, h => by simp at h
 | x :: r, k, h => by
  rw [List.takeWhile_cons] at h ⊢
  cases hx : isC x with
  | false => rw [hx] at h; simp at h
  | true =>
   rw [hx] at h
   simp only [if_true, List.length_cons] at h ⊢
   cases k with
   | zero => rfl
   | succ k =>
    have := tw_get r k (by omega)
    simpa using this
theorem decode_dec (s : ByteArray) (i : Nat) (b : UInt8) (r : List UInt8) (h : s.data.toList.drop i = b :: r) : Utf8.decode s i = decC b (r.takeWhile isC) := by
 have hget : ∀ k, s.get! (i + k) = (b :: r).getD k 0 := fun k => by
  rw [← Lib.getD_get!', ← h]
  simp [List.getD_eq_getElem?_getD]
 have hsz : s.size = i + (r.length + 1) := by
  have := congrArg List.length h
  rw [List.length_drop, List.length_cons, show s.data.toList.length = s.size by simp] at this
  omega
 have e0 : s.get! (i + 0) = b := hget 0
 have e1 : s.get! (i + 1) = r.getD 0 0 := hget 1
 have e2 : s.get! (i + 2) = r.getD 1 0 := hget 2
 have e3 : s.get! (i + 3) = r.getD 2 0 := hget 3
 have l0 := tw_len r 0
 have l1 := tw_len r 1
 have l2 := tw_len r 2
 have g0 := tw_get r 0
 have g1 := tw_get r 1
 have g2 := tw_get r 2
 generalize r.takeWhile isC = t at *
 have k1 : decide (0 < t.length) = (decide (i + 1 < s.size) && (s.get! (i + 1)).toNat / 64 == 2) := by
  rw [e1, Bool.eq_iff_iff, decide_eq_true_iff, l0, Bool.and_eq_true, decide_eq_true_iff]
  constructor
  ·
   intro h
   have := h 0 (Nat.le_refl _)
   exact ⟨by omega, this.2⟩
  ·
   rintro ⟨h1, h2⟩ j hj
   obtain rfl : j = 0 := by omega
   exact ⟨by omega, h2⟩
 have k2 : decide (1 < t.length) = ((decide (i + 1 < s.size) && (s.get! (i + 1)).toNat / 64 == 2) && (decide (i + 2 < s.size) && (s.get! (i + 2)).toNat / 64 == 2)) := by
  rw [← k1, e2, Bool.eq_iff_iff, decide_eq_true_iff, l1, Bool.and_eq_true, decide_eq_true_iff, l0, Bool.and_eq_true, decide_eq_true_iff]
  constructor
  ·
   intro h
   have := h 1 (Nat.le_refl _)
   exact ⟨fun j hj => h j (by omega), by omega, this.2⟩
  ·
   rintro ⟨h0, h1, h2⟩ j hj
   by_cases hj1 : j = 1
   ·
    subst hj1; exact ⟨by omega, h2⟩
   ·
    exact h0 j (by omega)
 have k3 : decide (2 < t.length) = (((decide (i + 1 < s.size) && (s.get! (i + 1)).toNat / 64 == 2) && (decide (i + 2 < s.size) && (s.get! (i + 2)).toNat / 64 == 2)) && (decide (i + 3 < s.size) && (s.get! (i + 3)).toNat / 64 == 2)) := by
  rw [← k2, e3, Bool.eq_iff_iff, decide_eq_true_iff, l2, Bool.and_eq_true, decide_eq_true_iff, l1, Bool.and_eq_true, decide_eq_true_iff]
  constructor
  ·
   intro h
   have := h 2 (Nat.le_refl _)
   exact ⟨fun j hj => h j (by omega), by omega, this.2⟩
  ·
   rintro ⟨h0, h1, h2⟩ j hj
   by_cases hj1 : j = 2
   ·
    subst hj1; exact ⟨by omega, h2⟩
   ·
    exact h0 j (by omega)
 have hd : Utf8.decode s i = decV (s.get! (i + 0)).toNat (s.get! (i + 1)).toNat (s.get! (i + 2)).toNat (s.get! (i + 3)).toNat (decide (i + 1 < s.size) && (s.get! (i + 1)).toNat / 64 == 2) (decide (i + 2 < s.size) && (s.get! (i + 2)).toNat / 64 == 2) (decide (i + 3 < s.size) && (s.get! (i + 3)).toNat / 64 == 2) := rfl
 rw [hd]
 generalize (decide (i + 1 < s.size) && (s.get! (i + 1)).toNat / 64 == 2) = c1 at k1 k2 k3 ⊢
 generalize (decide (i + 2 < s.size) && (s.get! (i + 2)).toNat / 64 == 2) = c2 at k2 k3 ⊢
 generalize (decide (i + 3 < s.size) && (s.get! (i + 3)).toNat / 64 == 2) = c3 at k3 ⊢
 unfold decC
 rw [e0, e1, e2, e3]
 cases c1 with
 | false => rw [k1, k2, k3]; simp [decV]
 | true =>
  rw [g0 (of_decide_eq_true k1)]
  cases c2 with
  | false => rw [k1, k2, k3]; simp [decV]
  | true =>
   rw [g1 (of_decide_eq_true k2)]
   cases c3 with
   | false => rw [k1, k2, k3]; simp [decV]
   | true => rw [g2 (of_decide_eq_true k3), k1, k2, k3]; rfl
theorem decC_len (b : UInt8) (l : List UInt8) : 1 ≤ (decC b l).2 ∧ (decC b l).2 ≤ 1 + l.length := by
 unfold decC decV
 repeat' split
 all_goals simp_all
 all_goals omega
def ckl : Nat → List UInt8 → Nat × Int
 | 0, l => (l.length, 0)
 | _ + 1, [] => (0, 0)
 | f + 1, b :: r =>
  if decC b (r.takeWhile isC) = (65533, 1) then (0, 20)
  else if xmlB (decC b (r.takeWhile isC)).1 = true then ((decC b (r.takeWhile isC)).2 + (ckl f (r.drop ((decC b (r.takeWhile isC)).2 - 1))).1, (ckl f (r.drop ((decC b (r.takeWhile isC)).2 - 1))).2)
  else (0, 15)
theorem ck_ckl (s : ByteArray) : ∀ (f : Nat) (i : Nat), i ≤ s.size → s.size ≤ i + f → ck s f i = (i + (ckl f (s.data.toList.drop i)).1, (ckl f (s.data.toList.drop i)).2)
 | 0, i, h1, h2 => by
  simp [ck, ckl]
  omega
 | f + 1, i, h1, h2 => by
  cases hd : s.data.toList.drop i with
  | nil =>
   have : s.data.toList.length - i = 0 := by rw [← List.length_drop, hd]; rfl
   have hs : s.data.toList.length = s.size := by simp
   rw [ck_end _ _ _ (by omega)]
   simp [ckl]
   omega
  | cons b r =>
   have hl : s.data.toList.length - i = r.length + 1 := by rw [← List.length_drop, hd]; rfl
   have hs : s.data.toList.length = s.size := by simp
   have hlen := decC_len b (r.takeWhile isC)
   have htw : (r.takeWhile isC).length ≤ r.length := (List.takeWhile_sublist _).length_le
   rw [ck_step _ _ _ (by omega), decode_dec s i b r hd]
   have hdr : s.data.toList.drop (i + (decC b (r.takeWhile isC)).2) = r.drop ((decC b (r.takeWhile isC)).2 - 1) := by
    rw [← List.drop_drop, hd]
    obtain ⟨n, hn⟩ : ∃ n, (decC b (r.takeWhile isC)).2 = n + 1 := ⟨(decC b (r.takeWhile isC)).2 - 1, by omega⟩
    rw [hn]
    rfl
   have ih := ck_ckl s f (i + (decC b (r.takeWhile isC)).2) (by omega) (by omega)
   rw [hdr] at ih
   simp only [ckl]
   by_cases he : decC b (r.takeWhile isC) = (65533, 1)
   ·
    rw [if_pos he, if_pos (by rw [he]; exact ⟨rfl, rfl⟩)]
    rfl
   ·
    rw [if_neg he, if_neg (fun h => he (Prod.ext h.1 h.2))]
    split
    ·
     rw [ih]
     simp only [Nat.add_assoc]
    ·
     rfl
theorem ckl_fuel : ∀ (n f g : Nat) (l : List UInt8), l.length ≤ n → l.length ≤ f → l.length ≤ g → ckl f l = ckl g l
 | _, f, g, [], _, _, _ => by cases f <;> cases g <;> rfl
 | 0, _, _, b :: r, h, _, _ => by simp at h
 | _, 0, _, b :: r, _, h, _ => by simp at h
 | _, _, 0, b :: r, _, _, h => by simp at h
 | n + 1, f + 1, g + 1, b :: r, h, hf, hg => by
  have hlen := decC_len b (r.takeWhile isC)
  simp only [List.length_cons] at h hf hg
  simp only [ckl]
  rw [ckl_fuel n f g (r.drop ((decC b (r.takeWhile isC)).2 - 1)) (by simp; omega) (by simp; omega) (by simp; omega)]
def ckL (l : List UInt8) : Nat × Int := ckl l.length l
theorem ckL_nil : ckL [] = (0, 0) := rfl
theorem ckL_cons (b : UInt8) (r : List UInt8) : ckL (b :: r) =
  if decC b (r.takeWhile isC) = (65533, 1) then (0, 20)
  else if xmlB (decC b (r.takeWhile isC)).1 = true then ((decC b (r.takeWhile isC)).2 + (ckL (r.drop ((decC b (r.takeWhile isC)).2 - 1))).1, (ckL (r.drop ((decC b (r.takeWhile isC)).2 - 1))).2)
  else (0, 15) := by
 unfold ckL
 rw [List.length_cons]
 simp only [ckl]
 rw [ckl_fuel r.length r.length (r.drop ((decC b (r.takeWhile isC)).2 - 1)).length (r.drop ((decC b (r.takeWhile isC)).2 - 1)) (by simp) (by simp) (Nat.le_refl _)]
theorem ck_ckL (s : ByteArray) : ck s s.size 0 = ckL s.data.toList := by
 have h := ck_ckl s s.size 0 (Nat.zero_le _) (by omega)
 rw [List.drop_zero] at h
 rw [h]
 unfold ckL
 rw [show s.data.toList.length = s.size by simp]
 simp
theorem check_f (s : ByteArray) (h : s.size ≤ 140737488355328) : text_Check.f s = some (((ckL s.data.toList).1 : Int), (ckL s.data.toList).2) := by
 unfold text_Check.f
 rw [if_pos h, ck_ckL]
theorem tw_le (r : List UInt8) : (r.takeWhile isC).length ≤ r.length := (List.takeWhile_sublist _).length_le
end Go.Proofs.YtknfpggiigncpaaGreatDoor.P
end
