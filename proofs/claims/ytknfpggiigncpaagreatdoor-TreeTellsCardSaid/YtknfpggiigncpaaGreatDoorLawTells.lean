/- Check, Unescape, Escape and Blank tell what the document's own answers tell: the plain law. -/
import Derived.Test.YtknfpggiigncpaaGreatDoorCkLaw
import Derived.Test.YtknfpggiigncpaaGreatDoorXUnesc
import Derived.Test.YtknfpggiigncpaaGreatDoorBx0
import Derived.Test.YtknfpggiigncpaaGreatDoorBx5
import Derived.Lib.Strings
set_option linter.unusedVariables false
set_option linter.unusedSimpArgs false
namespace Go.Proofs.YtknfpggiigncpaaGreatDoor.B
open Go.RowKit P YtknfpggiigncpaaGreatDoorW.PrintWords
def Ev {α : Type} (f : Nat → Option α) (r : α) : Prop := ∃ K, ∀ k, K ≤ k → f k = some r
theorem ba_ext {a b : ByteArray} (h : a.data.toList = b.data.toList) : a = b := ByteArray.ext (Array.toList_inj.1 h)
theorem ba_app (a b : ByteArray) : (a ++ b).data.toList = a.data.toList ++ b.data.toList := by simp
theorem drop_at (s : ByteArray) (i : Nat) (h : i < s.size) : s.data.toList.drop i = s[i] :: s.data.toList.drop (i + 1) := by
 have hl : i < s.data.toList.length := by simpa using h
 rw [List.drop_eq_getElem_cons hl]
 rfl
theorem bt_of (s : ByteArray) (i : Nat) (h : i < s.size) : bt s (i : Int) = (s[i].toNat : Int) := by
 unfold bt
 rw [dif_pos (by simpa using h)]
 rfl
theorem w_succ (i : Nat) (h : i < 4611686018427387904) : wrap64 ((i : Int) + 1) = ((i + 1 : Nat) : Int) := by unfold wrap64; omega
theorem byte_ne {b c : UInt8} {z : Int} (hz : (c.toNat : Int) = z) (h : b ≠ c) : ¬ ((b.toNat : Int) = z) := fun e => h (UInt8.toNat_inj.1 (by omega))
theorem toL (s : ByteArray) : s.toList = s.data.toList := by
 exact Lib.toList_data s
theorem ext_list (s : ByteArray) (i j : Nat) : (s.extract i j).data.toList = (s.data.toList.drop i).take (j - i) := by
 rw [ByteArray.data_extract, Array.toList_extract]
theorem ext_one (s : ByteArray) (i : Nat) (h : i < s.size) : s.extract i (i + 1) = ⟨#[s[i]]⟩ := by
 apply ba_ext
 rw [ext_list, drop_at s i h, show i + 1 - i = 1 by omega]
 rfl
theorem sz_list (s : ByteArray) : s.size = s.data.toList.length := by simp
theorem bt_list (s : ByteArray) (i : Nat) (h : i < s.data.toList.length) : bt s (i : Int) = ((s.data.toList[i]'h).toNat : Int) := by
 have h' : i < s.size := by simpa using h
 rw [bt_of s i h']
 rfl
theorem blank_l0 (s : ByteArray) (hs : s.size ≤ 5000) : ∀ (d i : Nat), i + d = s.size → Ev (fun k => remitterref08_Blank.l0 k s (i : Int)) ((s.data.toList.drop i).all blankB)
 | 0, i, h => by
  refine ⟨1, fun k hk => ?_⟩
  obtain ⟨k, rfl⟩ : ∃ j, k = j + 1 := ⟨k - 1, by omega⟩
  simp only [remitterref08_Blank.l0]
  rw [if_neg (by omega), List.drop_of_length_le (by simp; omega)]
  rfl
 | d + 1, i, h => by
  obtain ⟨K, hK⟩ := blank_l0 s hs d (i + 1) (by omega)
  have hi : i < s.size := by omega
  refine ⟨K + 1, fun k hk => ?_⟩
  obtain ⟨k, rfl⟩ : ∃ j, k = j + 1 := ⟨k - 1, by omega⟩
  have hk' := hK k (by omega)
  simp only at hk'
  simp only [remitterref08_Blank.l0]
  rw [if_pos (by omega), if_pos (by omega), bt_of s i hi, w_succ i (by omega), hk', drop_at s i hi, List.all_cons]
  generalize s[i] = b
  by_cases h1 : b = 32
  ·
   subst h1; rfl
  by_cases h2 : b = 9
  ·
   subst h2; rfl
  by_cases h3 : b = 10
  ·
   subst h3; rfl
  by_cases h4 : b = 13
  ·
   subst h4; rfl
  rw [if_neg (byte_ne (c := 32) (z := 32) rfl h1), if_neg (byte_ne (c := 9) (z := 9) rfl h2), if_neg (byte_ne (c := 10) (z := 10) rfl h3), if_neg (byte_ne (c := 13) (z := 13) rfl h4)]
  simp [blankB, h1, h2, h3, h4]
theorem esc_l0 (s : ByteArray) (hs : s.size ≤ 5000) : ∀ (d i : Nat) (out : ByteArray), i + d = s.size → out.size ≤ 6 * i → Ev (fun k => remitterref08_Escape.l0 k s out (i : Int)) (out ++ ⟨(escL (s.data.toList.drop i)).toArray⟩)
 | 0, i, out, h, ho => by
  refine ⟨1, fun k hk => ?_⟩
  obtain ⟨k, rfl⟩ : ∃ j, k = j + 1 := ⟨k - 1, by omega⟩
  simp only [remitterref08_Escape.l0]
  rw [if_neg (by omega), List.drop_of_length_le (by simp; omega)]
  exact congrArg some (ba_ext (by rw [ba_app]; simp [escL]))
 | d + 1, i, out, h, ho => by
  have hi : i < s.size := by omega
  have hsz : (⟨(escByte s[i]).toArray⟩ : ByteArray).size = (escByte s[i]).length := rfl
  have hb6 := escByte_len s[i]
  obtain ⟨K, hK⟩ := esc_l0 s hs d (i + 1) (out ++ ⟨(escByte s[i]).toArray⟩) (by omega) (by rw [ByteArray.size_append, hsz]; omega)
  refine ⟨K + 1, fun k hk => ?_⟩
  obtain ⟨k, rfl⟩ : ∃ j, k = j + 1 := ⟨k - 1, by omega⟩
  have hk' := hK k (by omega)
  simp only at hk'
  have hfin : out ++ ⟨(escByte s[i]).toArray⟩ ++ ⟨(escL (s.data.toList.drop (i + 1))).toArray⟩ = out ++ (⟨(escL (s.data.toList.drop i)).toArray⟩ : ByteArray) := by
   apply ba_ext
   rw [ba_app, ba_app, ba_app, drop_at s i hi, escL_cons]
   simp
  rw [hfin] at hk'
  have hex : s.extract i (i + 1) = ⟨#[s[i]]⟩ := ext_one s i hi
  simp only [remitterref08_Escape.l0]
  rw [if_pos (by omega), if_pos (by omega), bt_of s i hi, w_succ i (by omega), Int.toNat_natCast, Int.toNat_natCast, hex]
  generalize s[i] = b at hk'
  by_cases h1 : b = 38
  ·
   subst h1; rw [if_pos (show (((38 : UInt8).toNat : Nat) : Int) = 38 from rfl), if_pos (by omega)]; exact hk'
  rw [if_neg (byte_ne (c := 38) (z := 38) rfl h1)]
  by_cases h2 : b = 60
  ·
   subst h2; rw [if_pos (show (((60 : UInt8).toNat : Nat) : Int) = 60 from rfl), if_pos (by omega)]; exact hk'
  rw [if_neg (byte_ne (c := 60) (z := 60) rfl h2)]
  by_cases h3 : b = 62
  ·
   subst h3; rw [if_pos (show (((62 : UInt8).toNat : Nat) : Int) = 62 from rfl), if_pos (by omega)]; exact hk'
  rw [if_neg (byte_ne (c := 62) (z := 62) rfl h3)]
  by_cases h4 : b = 34
  ·
   subst h4; rw [if_pos (show (((34 : UInt8).toNat : Nat) : Int) = 34 from rfl), if_pos (by omega)]; exact hk'
  rw [if_neg (byte_ne (c := 34) (z := 34) rfl h4)]
  by_cases h5 : b = 39
  ·
   subst h5; rw [if_pos (show (((39 : UInt8).toNat : Nat) : Int) = 39 from rfl), if_pos (by omega)]; exact hk'
  rw [if_neg (byte_ne (c := 39) (z := 39) rfl h5)]
  by_cases h6 : b = 9
  ·
   subst h6; rw [if_pos (show (((9 : UInt8).toNat : Nat) : Int) = 9 from rfl), if_pos (by omega)]; exact hk'
  rw [if_neg (byte_ne (c := 9) (z := 9) rfl h6)]
  by_cases h7 : b = 10
  ·
   subst h7; rw [if_pos (show (((10 : UInt8).toNat : Nat) : Int) = 10 from rfl), if_pos (by omega)]; exact hk'
  rw [if_neg (byte_ne (c := 10) (z := 10) rfl h7)]
  by_cases h8 : b = 13
  ·
   subst h8; rw [if_pos (show (((13 : UInt8).toNat : Nat) : Int) = 13 from rfl), if_pos (by omega)]; exact hk'
  rw [if_neg (byte_ne (c := 13) (z := 13) rfl h8), if_pos (by omega), if_pos (by omega), if_pos (by rw [show (⟨#[b]⟩ : ByteArray).size = 1 from rfl]; omega)]
  rw [show escByte b = [b] by simp [escByte, h1, h2, h3, h4, h5, h6, h7, h8]] at hk'
  exact hk'
theorem up {α : Type} {f : Nat → Option α} (hm : ∀ k, LeO (f k) (f (k + 1))) {K : Nat} {r : α} (h : f K = some r) : ∀ k, K ≤ k → f k = some r := by
 intro k hk
 obtain ⟨j, rfl⟩ : ∃ j, k = K + j := ⟨k - K, by omega⟩
 clear hk
 induction j with
 | zero => exact h
 | succ j ih => exact hm _ _ ih
/-! The reference's size of a character. -/
theorem valid_nat (c : Nat) : Utf8.valid (c : Int) = decide (c < 55296 ∨ (57344 ≤ c ∧ c ≤ 1114111)) := by
 unfold Utf8.valid
 rw [Bool.eq_iff_iff]
 simp
 omega
theorem sz_end (s : ByteArray) (k n least c : Nat) (hn : n ≤ 4) : remitterref05_size.l0 (k + 1) s n least c n = some (if least ≤ c ∧ (c < 55296 ∨ (57344 ≤ c ∧ c ≤ 1114111)) then (n : Int) else 1) := by
 simp only [remitterref05_size.l0]
 rw [if_neg (by omega)]
 by_cases h1 : c < least
 ·
  rw [if_pos (by omega), if_neg (by omega)]
 rw [if_neg (by omega)]
 by_cases h2 : c > 1114111
 ·
  rw [if_pos (by omega), if_neg (by omega)]
 rw [if_neg (by omega)]
 by_cases h3 : c ≥ 55296
 ·
  rw [if_pos (by omega)]
  by_cases h4 : c ≤ 57343
  ·
   rw [if_pos (by omega), if_neg (by omega)]
  ·
   rw [if_neg (by omega), if_pos (by omega)]
 ·
  rw [if_neg (by omega), if_pos (by omega)]
theorem wrap32_nat (c : Nat) (h : c < 2147483648) : wrap32 (c : Int) = c := by unfold wrap32; omega
theorem sz_step (s : ByteArray) (k n least c i : Nat) (x : UInt8) (hi : i < n) (hn : n ≤ 4) (hs : i < s.size) (hc : c < 33554432) (hx : bt s (i : Int) = (x.toNat : Int)) :
  remitterref05_size.l0 (k + 1) s n least c i = if isC x then remitterref05_size.l0 k s n least ((c * 64 + x.toNat % 64 : Nat) : Int) ((i + 1 : Nat) : Int) else some 1 := by
 have hb : x.toNat < 256 := x.toNat_lt
 simp only [remitterref05_size.l0]
 rw [if_pos (by omega), if_pos (by omega), if_pos (by omega), hx]
 have hm := mask192_u8 x.toNat hb
 have e1 : wrap32 ((c : Int) * 64) = (c : Int) * 64 := by unfold wrap32; omega
 rw [w_succ i (by omega), mask63_u8 _ hb, wrap32_nat _ (by omega), e1, or64_i32 _ _ hc (by omega)]
 have e2 : (c : Int) * 64 + ((x.toNat % 64 : Nat) : Int) = ((c * 64 + x.toNat % 64 : Nat) : Int) := by omega
 rw [e2]
 unfold isC
 by_cases h : x.toNat / 64 = 2
 ·
  rw [if_pos (hm.2 h), if_pos (by simpa using h)]
 ·
  rw [if_neg (fun e => h (hm.1 e)), if_neg (by simpa using h)]
theorem size_dec (s : ByteArray) (b : UInt8) (r : List UInt8) (hs : s.data.toList = b :: r) (k : Nat) : remitterref05_size.f (k + 9) s = some (((decC b (r.takeWhile isC)).2 : Nat) : Int) := by
 have hb : b.toNat < 256 := b.toNat_lt
 have hsz : s.size = r.length + 1 := by rw [sz_list, hs]; rfl
 have b0 : bt s 0 = (b.toNat : Int) := by
  have := bt_list s 0 (by rw [hs]; simp)
  simp only [hs] at this
  exact this
 have bj : ∀ (j : Nat) (x : UInt8) (h : j < r.length), r[j]'h = x → bt s ((j + 1 : Nat) : Int) = (x.toNat : Int) := by
  intro j x h e
  have := bt_list s (j + 1) (by rw [hs]; simp; omega)
  simp only [hs, List.getElem_cons_succ] at this
  rw [this, e]
 unfold remitterref05_size.f
 rw [if_pos (by omega), b0]
 unfold decC decV
 have d32 : ∀ c : Nat, (Utf8.valid (c : Int)) = decide (c < 55296 ∨ (57344 ≤ c ∧ c ≤ 1114111)) := valid_nat
 -- four bytes
 by_cases h4 : b.toNat / 8 = 30
 ·
  have hlo : 240 ≤ b.toNat := by omega
  rw [if_pos (by omega), if_neg (by omega)]
  have n6 : (b.toNat / 32 == 6) = false := by simp; omega
  have n14 : (b.toNat / 16 == 14) = false := by simp; omega
  have y30 : (b.toNat / 8 == 30) = true := by simp; omega
  rw [n6, n14, y30]
  simp only [Bool.false_and, Bool.false_eq_true, if_false, Bool.true_and, remitterref05_size.j0]
  by_cases h5 : b.toNat ≤ 244
  ·
   rw [if_pos (by simp; omega)]
   simp only [remitterref05_size.j2]
   rw [mask7_u8 _ hb, wrap32_nat _ (by omega)]
   match r, hsz, bj with
   | [], hsz, bj => rw [if_pos (by simp at hsz; omega)]; simp
   | [x], hsz, bj => rw [if_pos (by simp at hsz; omega)]; cases cx : isC x <;> simp [List.takeWhile_cons, cx]
   | [x, y], hsz, bj => rw [if_pos (by simp at hsz; omega)]; cases cx : isC x <;> cases cy : isC y <;> simp [List.takeWhile_cons, cx, cy]
   | x :: y :: z :: r, hsz, bj =>
    simp only [List.length_cons] at hsz
    rw [if_neg (by omega)]
    have x1 := bj 0 x (by simp) rfl
    have x2 := bj 1 y (by simp) rfl
    have x3 := bj 2 z (by simp) rfl
    have s1 := sz_step s (k + 6) 4 65536 (b.toNat % 8) 1 x (by omega) (by omega) (by omega) (by omega) x1
    have hx := x.toNat_lt
    have hy := y.toNat_lt
    have hz := z.toNat_lt
    refine s1.trans ?_
    cases cx : isC x with
    | false => simp [List.takeWhile_cons, cx]
    | true =>
     have s2 := sz_step s (k + 5) 4 65536 (b.toNat % 8 * 64 + x.toNat % 64) 2 y (by omega) (by omega) (by omega) (by omega) x2
     refine (if_pos rfl).trans (s2.trans ?_)
     cases cy : isC y with
     | false => simp [List.takeWhile_cons, cx, cy]
     | true =>
      have s3 := sz_step s (k + 4) 4 65536 ((b.toNat % 8 * 64 + x.toNat % 64) * 64 + y.toNat % 64) 3 z (by omega) (by omega) (by omega) (by omega) x3
      refine (if_pos rfl).trans (s3.trans ?_)
      cases cz : isC z with
      | false => simp [List.takeWhile_cons, cx, cy, cz]
      | true =>
       refine (if_pos rfl).trans ((sz_end s (k + 3) 4 65536 _ (by omega)).trans ?_)
       simp only [List.takeWhile_cons, cx, cy, cz, if_true, List.getD_cons_zero, List.getD_cons_succ, List.length_cons]
       rw [d32]
       have e : ((b.toNat % 8 * 64 + x.toNat % 64) * 64 + y.toNat % 64) * 64 + z.toNat % 64 = b.toNat % 8 * 262144 + x.toNat % 64 * 4096 + y.toNat % 64 * 64 + z.toNat % 64 := by omega
       rw [e]
       generalize b.toNat % 8 * 262144 + x.toNat % 64 * 4096 + y.toNat % 64 * 64 + z.toNat % 64 = c
       by_cases hc : 65536 ≤ c ∧ (c < 55296 ∨ (57344 ≤ c ∧ c ≤ 1114111))
       ·
        rw [if_pos hc]
        simp [hc]
       ·
        rw [if_neg hc]
        have : (decide (c ≥ 65536) && decide (c < 55296 ∨ (57344 ≤ c ∧ c ≤ 1114111))) = false := by
         rw [← Bool.decide_and]; exact decide_eq_false hc
        simp [hc]
  ·
   rw [if_neg (by simp; omega), if_pos (by omega)]
   simp only [remitterref05_size.j1]
   rw [if_neg (by simp; omega), if_pos (by omega), if_neg (by omega)]
   have : ∀ c0 c1 c2 : Nat, (b.toNat % 8 * 262144 + c0 % 64 * 4096 + c1 % 64 * 64 + c2 % 64 ≥ 65536 && Utf8.valid ((b.toNat % 8 * 262144 + c0 % 64 * 4096 + c1 % 64 * 64 + c2 % 64 : Nat) : Int)) = false := by
    intro c0 c1 c2
    rw [d32, ← Bool.decide_and]
    exact decide_eq_false (by omega)
   simp only [this]
   split <;> simp
 by_cases h3 : b.toNat / 16 = 14
 ·
  rw [if_neg (by omega), if_neg (by omega)]
  have n6 : (b.toNat / 32 == 6) = false := by simp; omega
  have y14 : (b.toNat / 16 == 14) = true := by simp; omega
  have n30 : (b.toNat / 8 == 30) = false := by simp; omega
  rw [n6, y14, n30]
  simp only [Bool.false_and, Bool.false_eq_true, if_false, Bool.true_and, remitterref05_size.j0]
  rw [if_pos (by omega)]
  simp only [remitterref05_size.j1]
  rw [if_pos (by simp; omega)]
  simp only [remitterref05_size.j2]
  rw [mask15_u8 _ hb, wrap32_nat _ (by omega)]
  match r, hsz, bj with
  | [], hsz, bj => rw [if_pos (by simp at hsz; omega)]; simp
  | [x], hsz, bj => rw [if_pos (by simp at hsz; omega)]; cases cx : isC x <;> simp [List.takeWhile_cons, cx]
  | x :: y :: r, hsz, bj =>
   simp only [List.length_cons] at hsz
   rw [if_neg (by omega)]
   have x1 := bj 0 x (by simp) rfl
   have x2 := bj 1 y (by simp) rfl
   have hx := x.toNat_lt
   have hy := y.toNat_lt
   have s1 := sz_step s (k + 5) 3 2048 (b.toNat % 16) 1 x (by omega) (by omega) (by omega) (by omega) x1
   refine s1.trans ?_
   cases cx : isC x with
   | false => simp [List.takeWhile_cons, cx]
   | true =>
    have s2 := sz_step s (k + 4) 3 2048 (b.toNat % 16 * 64 + x.toNat % 64) 2 y (by omega) (by omega) (by omega) (by omega) x2
    refine (if_pos rfl).trans (s2.trans ?_)
    cases cy : isC y with
    | false => simp [List.takeWhile_cons, cx, cy]
    | true =>
     refine (if_pos rfl).trans ((sz_end s (k + 3) 3 2048 _ (by omega)).trans ?_)
     have hl : ((x :: y :: r).takeWhile isC) = x :: y :: r.takeWhile isC := by simp [List.takeWhile_cons, cx, cy]
     rw [hl]
     simp only [List.getD_cons_zero, List.getD_cons_succ, List.length_cons]
     rw [d32]
     have e : (b.toNat % 16 * 64 + x.toNat % 64) * 64 + y.toNat % 64 = b.toNat % 16 * 4096 + x.toNat % 64 * 64 + y.toNat % 64 := by omega
     rw [e]
     generalize b.toNat % 16 * 4096 + x.toNat % 64 * 64 + y.toNat % 64 = c
     have nb : ¬ b.toNat < 128 := by omega
     by_cases hc : 2048 ≤ c ∧ (c < 55296 ∨ (57344 ≤ c ∧ c ≤ 1114111))
     ·
      rw [if_pos hc]
      simp [hc, nb]
     ·
      rw [if_neg hc]
      have : (decide (c ≥ 2048) && decide (c < 55296 ∨ (57344 ≤ c ∧ c ≤ 1114111))) = false := by
       rw [← Bool.decide_and]; exact decide_eq_false hc
      simp [hc, nb]
 have n14 : (b.toNat / 16 == 14) = false := by simp; omega
 have n30 : (b.toNat / 8 == 30) = false := by simp; omega
 have hj0 : (if (b.toNat : Int) ≥ 240 then remitterref05_size.j0 (k + 9) s (b.toNat : Int) (decide ((b.toNat : Int) ≤ 244)) else remitterref05_size.j0 (k + 9) s (b.toNat : Int) false) = remitterref05_size.j0 (k + 9) s (b.toNat : Int) false := by
  split
  ·
   rw [decide_eq_false (by omega)]
  ·
   rfl
 rw [hj0]
 simp only [remitterref05_size.j0, Bool.false_eq_true, if_false]
 have hj1 : (if (b.toNat : Int) ≥ 224 then remitterref05_size.j1 (k + 8) s (b.toNat : Int) (decide ((b.toNat : Int) ≤ 239)) else remitterref05_size.j1 (k + 8) s (b.toNat : Int) false) = remitterref05_size.j1 (k + 8) s (b.toNat : Int) false := by
  split
  ·
   rw [decide_eq_false (by omega)]
  ·
   rfl
 rw [hj1]
 simp only [remitterref05_size.j1, Bool.false_eq_true, if_false]
 rw [n14, n30]
 simp only [Bool.false_and, Bool.false_eq_true, if_false]
 by_cases h2 : b.toNat / 32 = 6
 ·
  have y6 : (b.toNat / 32 == 6) = true := by simp; omega
  rw [y6]
  simp only [Bool.true_and]
  have nb : ¬ b.toNat < 128 := by omega
  by_cases hlo : b.toNat ≥ 194
  ·
   rw [if_pos (by omega), if_pos (by omega)]
   simp only [remitterref05_size.j2]
   rw [mask31_u8 _ hb, wrap32_nat _ (by omega)]
   match r, hsz, bj with
   | [], hsz, bj => rw [if_pos (by simp at hsz; omega)]; simp [nb]
   | x :: r, hsz, bj =>
    simp only [List.length_cons] at hsz
    rw [if_neg (by omega)]
    have x1 := bj 0 x (by simp) rfl
    have hx := x.toNat_lt
    have s1 := sz_step s (k + 5) 2 128 (b.toNat % 32) 1 x (by omega) (by omega) (by omega) (by omega) x1
    refine s1.trans ?_
    cases cx : isC x with
    | false => simp [List.takeWhile_cons, cx, nb]
    | true =>
     refine (if_pos rfl).trans ((sz_end s (k + 4) 2 128 _ (by omega)).trans ?_)
     have hl : ((x :: r).takeWhile isC) = x :: r.takeWhile isC := by simp [List.takeWhile_cons, cx]
     rw [hl]
     simp only [List.getD_cons_zero, List.length_cons]
     have hc : 128 ≤ b.toNat % 32 * 64 + x.toNat % 64 := by omega
     rw [if_pos (by omega)]
     simp [nb, hc]
  ·
   have hf : (if (b.toNat : Int) ≥ 194 then (if (b.toNat : Int) ≤ 223 then remitterref05_size.j2 (k + 7) s 2 128 (wrap32 (Go.bits .and .u8 (b.toNat : Int) 31)) else some 1) else some 1) = some (1 : Int) := if_neg (by omega)
   rw [hf, if_neg nb]
   have hc : ∀ c0 : Nat, ¬ (b.toNat % 32 * 64 + c0 % 64 ≥ 128) := by omega
   simp only [hc, if_false]
   split <;> rfl
 ·
  have n6 : (b.toNat / 32 == 6) = false := by simp; omega
  rw [n6]
  simp only [Bool.false_and, Bool.false_eq_true, if_false]
  have hf : (if (b.toNat : Int) ≥ 194 then (if (b.toNat : Int) ≤ 223 then remitterref05_size.j2 (k + 7) s 2 128 (wrap32 (Go.bits .and .u8 (b.toNat : Int) 31)) else some 1) else some 1) = some (1 : Int) := by
   split
   ·
    rw [if_neg (by omega)]
   ·
    rfl
  rw [hf]
  split <;> rfl
/-! The reference's characters. -/
def chL : Nat → List UInt8 → List (List UInt8)
 | 0, _ => []
 | _ + 1, [] => []
 | f + 1, b :: r => (b :: r.take ((decC b (r.takeWhile isC)).2 - 1)) :: chL f (r.drop ((decC b (r.takeWhile isC)).2 - 1))
def baOf (l : List UInt8) : ByteArray := ⟨l.toArray⟩
theorem baOf_list (l : List UInt8) : (baOf l).data.toList = l := rfl
theorem baOf_size (l : List UInt8) : (baOf l).size = l.length := rfl
theorem size_dec' (s : ByteArray) (b : UInt8) (r : List UInt8) (hs : s.data.toList = b :: r) (k : Nat) (hk : 9 ≤ k) : remitterref05_size.f k s = some (((decC b (r.takeWhile isC)).2 : Nat) : Int) := by
 obtain ⟨k, rfl⟩ : ∃ j, k = j + 9 := ⟨k - 9, by omega⟩
 exact size_dec s b r hs k
theorem chars_l0 (s : ByteArray) (hs : s.size ≤ 5000) : ∀ (d i : Nat) (acc : List ByteArray) (k : Nat), s.size ≤ i + d → i ≤ s.size → acc.length ≤ i → d + 10 ≤ k →
  remitterref05_Chars.l0 k s acc (i : Int) = some (acc ++ (chL d (s.data.toList.drop i)).map baOf)
 | 0, i, acc, k, h, hi, ha, hk => by
  obtain ⟨k, rfl⟩ : ∃ j, k = j + 1 := ⟨k - 1, by omega⟩
  simp only [remitterref05_Chars.l0]
  rw [if_neg (by omega)]
  simp [chL]
 | d + 1, i, acc, k, h, hi, ha, hk => by
  obtain ⟨k, rfl⟩ : ∃ j, k = j + 1 := ⟨k - 1, by omega⟩
  simp only [remitterref05_Chars.l0]
  by_cases hlt : i < s.size
  ·
   have hdr := drop_at s i hlt
   have hsl : (s.extract i s.size).data.toList = s[i] :: s.data.toList.drop (i + 1) := by
    rw [ext_list, List.take_of_length_le (by simp), hdr]
   have hlen := decC_len s[i] ((s.data.toList.drop (i + 1)).takeWhile isC)
   have htl := tw_le (s.data.toList.drop (i + 1))
   have hl1 : (s.data.toList.drop (i + 1)).length = s.size - (i + 1) := by simp
   rw [if_pos (by omega), if_pos (by omega), if_pos (by omega), Int.toNat_natCast, size_dec' _ _ _ hsl k (by omega), Option.bind_some]
   have hw : wrap64 ((i : Int) + ((decC s[i] ((s.data.toList.drop (i + 1)).takeWhile isC)).2 : Nat)) = ((i + (decC s[i] ((s.data.toList.drop (i + 1)).takeWhile isC)).2 : Nat) : Int) := by unfold wrap64; omega
   rw [hw, if_pos (by omega), if_pos (by omega), if_pos (by omega), Int.toNat_natCast]
   have ih := chars_l0 s hs d (i + (decC s[i] ((s.data.toList.drop (i + 1)).takeWhile isC)).2) (acc ++ [s.extract i (i + (decC s[i] ((s.data.toList.drop (i + 1)).takeWhile isC)).2)]) k (by omega) (by omega) (by simp; omega) (by omega)
   rw [ih, hdr]
   simp only [chL]
   have hx : s.extract i (i + (decC s[i] ((s.data.toList.drop (i + 1)).takeWhile isC)).2) = baOf (s[i] :: (s.data.toList.drop (i + 1)).take ((decC s[i] ((s.data.toList.drop (i + 1)).takeWhile isC)).2 - 1)) := by
    apply ba_ext
    rw [ext_list, hdr, baOf_list, Nat.add_sub_cancel_left]
    obtain ⟨n, hn⟩ : ∃ n, (decC s[i] ((s.data.toList.drop (i + 1)).takeWhile isC)).2 = n + 1 := ⟨(decC s[i] ((s.data.toList.drop (i + 1)).takeWhile isC)).2 - 1, by omega⟩
    rw [hn]
    rfl
   have hdd : s.data.toList.drop (i + (decC s[i] ((s.data.toList.drop (i + 1)).takeWhile isC)).2) = (s.data.toList.drop (i + 1)).drop ((decC s[i] ((s.data.toList.drop (i + 1)).takeWhile isC)).2 - 1) := by
    rw [List.drop_drop]
    congr 1
    omega
   rw [hx, hdd]
   simp
  ·
   rw [if_neg (by omega), List.drop_of_length_le (by simp; omega)]
   simp [chL]
/-! The reference's code of a piece. -/
theorem three (r : List UInt8) (h : 2 < r.length) : ∃ x y z q, r = x :: y :: z :: q := by
 match r, h with
 | x :: y :: z :: q, _ => exact ⟨x, y, z, q, rfl⟩
theorem piece_bt (p : List UInt8) (j : Nat) (x : UInt8) (h : j < p.length) (e : p[j]'h = x) : bt (baOf p) (j : Int) = (x.toNat : Int) := by
 rw [bt_list (baOf p) j (by rw [baOf_list]; exact h)]
 simp only [baOf_list]
 rw [e]
theorem code_piece (b : UInt8) (r : List UInt8) : remitterref08_Code.f (baOf (b :: r.take ((decC b (r.takeWhile isC)).2 - 1))) = some (if decC b (r.takeWhile isC) = (65533, 1) then -1 else ((decC b (r.takeWhile isC)).1 : Int)) := by
 have hb : b.toNat < 256 := b.toNat_lt
 have key : ∀ (p : List UInt8) (j : Nat) (x : UInt8) (h : j < p.length), p[j]'h = x → bt (baOf p) (j : Int) = (x.toNat : Int) := by
  intro p j x h e
  rw [bt_list (baOf p) j (by rw [baOf_list]; exact h)]
  simp only [baOf_list]
  rw [e]
 have hw : ∀ n : Nat, n < 9223372036854775808 → wrap64 (n : Int) = n := by intro n h; unfold wrap64; omega
 have one : remitterref08_Code.f (baOf [b]) = some (if b.toNat < 128 then (b.toNat : Int) else -1) := by
  unfold remitterref08_Code.f
  have k0 := key [b] 0 b (by simp) rfl
  simp only [Int.natCast_zero, Int.ofNat_zero] at k0
  rw [baOf_size]
  simp only [List.length_cons, List.length_nil]
  rw [if_pos (by omega), if_pos (by omega)]
  have k0' : bt (baOf [b]) 0 = (b.toNat : Int) := k0
  rw [k0', hw _ (by omega)]
  split
  ·
   rw [if_pos (by omega)]
  ·
   rw [if_neg (by omega)]
 have notone : ∀ n, (65533, 1) ≠ ((n, 1) : Nat × Nat) → n ≠ 65533 := by intro n h e; exact h (by rw [e])
 unfold decC decV
 by_cases h1 : b.toNat < 128
 ·
  simp only [if_pos h1]
  simp only [Nat.sub_self, List.take_zero]
  rw [one, if_pos h1, if_neg (by simp; omega)]
 rw [if_neg h1]
 have bad : remitterref08_Code.f (baOf (b :: r.take (1 - 1))) = some (if ((65533, 1) : Nat × Nat) = (65533, 1) then (-1 : Int) else 65533) := by
  simp only [Nat.sub_self, List.take_zero]
  rw [one, if_neg h1]
  rfl
 have l0 := tw_len r 0
 have l1 := tw_len r 1
 have l2 := tw_len r 2
 have g0 := tw_get r 0
 have g1 := tw_get r 1
 have g2 := tw_get r 2
 split
 ·
  rename_i h2
  simp only [Bool.and_eq_true, decide_eq_true_eq, beq_iff_eq] at h2
  split
  ·
   rename_i h3
   have hr := (l0.1 h2.2) 0 (Nat.le_refl _)
   match r, hr with
   | x :: r, hr =>
    have hx : x.toNat < 256 := x.toNat_lt
    rw [g0 h2.2]
    have hp : (x :: r).take (2 - 1) = [x] := rfl
    simp only [hp, List.getD_cons_zero]
    rw [if_neg (by simp)]
    unfold remitterref08_Code.f
    rw [baOf_size]
    simp only [List.length_cons, List.length_nil]
    rw [if_pos (by omega), if_neg (by omega), if_pos (by omega), if_pos (by omega)]
    have k0 : bt (baOf [b, x]) 0 = (b.toNat : Int) := key [b, x] 0 b (by simp) rfl
    have k1 : bt (baOf [b, x]) 1 = (x.toNat : Int) := key [b, x] 1 x (by simp) rfl
    rw [k0, k1, hw _ (by omega), mask31_i64 _ (by omega), mask63_u8 _ hx, hw _ (by omega)]
    have e1 : wrap64 (((b.toNat % 32 : Nat) : Int) * 64) = ((b.toNat % 32 : Nat) : Int) * 64 := by unfold wrap64; omega
    rw [e1, or64_i64 _ _ (by omega) (by omega)]
    congr 1
  ·
   exact bad
 ·
  split
  ·
   rename_i h2 h3
   simp only [Bool.and_eq_true, decide_eq_true_eq, beq_iff_eq] at h3
   split
   ·
    rename_i h4
    have hr := (l1.1 h3.2)
    have hr0 := hr 0 (by omega)
    have hr1 := hr 1 (by omega)
    match r, hr0, hr1 with
    | [x], hr0, hr1 => exact absurd hr1.1 (by simp)
    | x :: y :: r, hr0, hr1 =>
     have hx : x.toNat < 256 := x.toNat_lt
     have hy : y.toNat < 256 := y.toNat_lt
     rw [g0 (by omega), g1 h3.2]
     have hp : (x :: y :: r).take (3 - 1) = [x, y] := rfl
     simp only [hp, List.getD_cons_zero, List.getD_cons_succ]
     rw [if_neg (by simp)]
     unfold remitterref08_Code.f
     rw [baOf_size]
     simp only [List.length_cons, List.length_nil]
     rw [if_pos (by omega), if_neg (by omega), if_neg (by omega), if_pos (by omega), if_pos (by omega), if_pos (by omega)]
     have k0 : bt (baOf [b, x, y]) 0 = (b.toNat : Int) := key [b, x, y] 0 b (by simp) rfl
     have k1 : bt (baOf [b, x, y]) 1 = (x.toNat : Int) := key [b, x, y] 1 x (by simp) rfl
     have k2 : bt (baOf [b, x, y]) 2 = (y.toNat : Int) := key [b, x, y] 2 y (by simp) rfl
     rw [k0, k1, k2, hw _ (by omega), mask15_i64 _ (by omega), mask63_u8 _ hx, mask63_u8 _ hy, hw (x.toNat % 64) (by omega), hw (y.toNat % 64) (by omega)]
     have e1 : wrap64 (((b.toNat % 16 : Nat) : Int) * 4096) = ((b.toNat % 16 * 4096 : Nat) : Int) := by unfold wrap64; omega
     have e2 : wrap64 (((x.toNat % 64 : Nat) : Int) * 64) = ((x.toNat % 64 * 64 : Nat) : Int) := by unfold wrap64; omega
     rw [e1, e2, or_head (b.toNat % 16 * 4096) (x.toNat % 64 * 64) 12 (b.toNat % 16) (by omega) (by omega) (by omega) (by omega), or_head (b.toNat % 16 * 4096 + x.toNat % 64 * 64) (y.toNat % 64) 6 (b.toNat % 16 * 64 + x.toNat % 64) (by omega) (by omega) (by omega) (by omega)]
   ·
    exact bad
  ·
   split
   ·
    rename_i h2 h3 h4
    simp only [Bool.and_eq_true, decide_eq_true_eq, beq_iff_eq] at h4
    split
    ·
     rename_i h5
     have hr := (l2.1 h4.2)
     have hr0 := hr 0 (by omega)
     have hr1 := hr 1 (by omega)
     have hr2 := hr 2 (by omega)
     have hr2l := hr2.1
     have g0' := g0 (by omega)
     have g1' := g1 (by omega)
     have g2' := g2 h4.2
     clear l0 l1 l2 g0 g1 g2 hr hr0 hr1 hr2 key
     obtain ⟨x, y, z, q, rfl⟩ := three r hr2l
     ·
      skip
      have hx : x.toNat < 256 := x.toNat_lt
      have hy : y.toNat < 256 := y.toNat_lt
      have hz : z.toNat < 256 := z.toNat_lt
      rw [g0', g1', g2']
      have hp : (x :: y :: z :: q).take (4 - 1) = [x, y, z] := rfl
      simp only [hp, List.getD_cons_zero, List.getD_cons_succ]
      rw [if_neg (by simp)]
      unfold remitterref08_Code.f
      rw [baOf_size]
      simp only [List.length_cons, List.length_nil]
      rw [if_pos (by omega), if_neg (by omega), if_neg (by omega), if_neg (by omega), if_pos (by omega), if_pos (by omega), if_pos (by omega)]
      have k0 : bt (baOf [b, x, y, z]) 0 = (b.toNat : Int) := piece_bt [b, x, y, z] 0 b (by simp) rfl
      have k1 : bt (baOf [b, x, y, z]) 1 = (x.toNat : Int) := piece_bt [b, x, y, z] 1 x (by simp) rfl
      have k2 : bt (baOf [b, x, y, z]) 2 = (y.toNat : Int) := piece_bt [b, x, y, z] 2 y (by simp) rfl
      have k3 : bt (baOf [b, x, y, z]) 3 = (z.toNat : Int) := piece_bt [b, x, y, z] 3 z (by simp) rfl
      rw [k0, k1, k2, k3, hw _ (by omega), mask7_i64 _ (by omega), mask63_u8 _ hx, mask63_u8 _ hy, mask63_u8 _ hz, hw (x.toNat % 64) (by omega), hw (y.toNat % 64) (by omega), hw (z.toNat % 64) (by omega)]
      have e1 : wrap64 (((b.toNat % 8 : Nat) : Int) * 262144) = ((b.toNat % 8 * 262144 : Nat) : Int) := by unfold wrap64; omega
      have e2 : wrap64 (((x.toNat % 64 : Nat) : Int) * 4096) = ((x.toNat % 64 * 4096 : Nat) : Int) := by unfold wrap64; omega
      have e3 : wrap64 (((y.toNat % 64 : Nat) : Int) * 64) = ((y.toNat % 64 * 64 : Nat) : Int) := by unfold wrap64; omega
      rw [e1, e2, e3, or_head (b.toNat % 8 * 262144) (x.toNat % 64 * 4096) 18 (b.toNat % 8) (by omega) (by omega) (by omega) (by omega), or_head (b.toNat % 8 * 262144 + x.toNat % 64 * 4096) (y.toNat % 64 * 64) 12 (b.toNat % 8 * 64 + x.toNat % 64) (by omega) (by omega) (by omega) (by omega), or_head (b.toNat % 8 * 262144 + x.toNat % 64 * 4096 + y.toNat % 64 * 64) (z.toNat % 64) 6 (b.toNat % 8 * 4096 + x.toNat % 64 * 64 + y.toNat % 64) (by omega) (by omega) (by omega) (by omega)]
    ·
     exact bad
   ·
    exact bad
theorem xml_f (n : Nat) : remitterref08_XML.f (n : Int) = some (xmlB n) := by
 unfold remitterref08_XML.f xmlB
 repeat' split
 all_goals
  congr 1
  first
   | (symm; simp; omega)
   | (rw [Bool.eq_iff_iff]; simp; omega)
theorem check_l0 (L : List (List UInt8)) : ∀ (d : Nat) (l : List UInt8) (at_ i k : Nat), l.length ≤ d → L.drop i = chL d l → i ≤ L.length → L.length ≤ 5000 → at_ + l.length ≤ 5000 → l.length ≤ 5000 → d + 1 ≤ k →
  remitterref08_Check.l0 k (L.map baOf) (at_ : Int) (i : Int) = some (((at_ + (ckl d l).1 : Nat) : Int), (ckl d l).2)
 | 0, l, at_, i, k, hd, hL, hi, hl, hat, hl2, hk => by
  obtain ⟨k, rfl⟩ : ∃ j, k = j + 1 := ⟨k - 1, by omega⟩
  have hl0 : l = [] := List.eq_nil_of_length_eq_zero (by omega)
  subst hl0
  simp only [remitterref08_Check.l0, List.length_map]
  have : L.length ≤ i := by
   have := congrArg List.length hL
   simp [chL] at this
   omega
  rw [if_neg (by omega)]
  simp [ckl]
 | d + 1, [], at_, i, k, hd, hL, hi, hl, hat, hl2, hk => by
  obtain ⟨k, rfl⟩ : ∃ j, k = j + 1 := ⟨k - 1, by omega⟩
  simp only [remitterref08_Check.l0, List.length_map]
  have : L.length ≤ i := by
   have := congrArg List.length hL
   simp [chL] at this
   omega
  rw [if_neg (by omega)]
  simp [ckl]
 | d + 1, b :: r, at_, i, k, hd, hL, hi, hl, hat, hl2, hk => by
  obtain ⟨k, rfl⟩ : ∃ j, k = j + 1 := ⟨k - 1, by omega⟩
  simp only [List.length_cons] at hd hat hl2
  have hlt : i < L.length := by
   have := congrArg List.length hL
   simp [chL] at this
   omega
  have hlen := decC_len b (r.takeWhile isC)
  have htl := tw_le r
  have hdc := List.drop_eq_getElem_cons hlt
  rw [hL] at hdc
  simp only [chL] at hdc
  obtain ⟨hd1, hd2⟩ := List.cons.inj hdc
  simp only [remitterref08_Check.l0, List.length_map]
  have hrd : rdOf ByteArray.empty (L.map baOf) (i : Int) = baOf (b :: r.take ((decC b (r.takeWhile isC)).2 - 1)) := by
   unfold rdOf
   rw [Int.toNat_natCast, List.getD_eq_getElem?_getD, List.getElem?_map, List.getElem?_eq_getElem hlt, ← hd1]
   rfl
  rw [if_pos (by omega), if_pos (by omega), hrd, code_piece, Option.bind_some]
  simp only [ckl]
  by_cases he : decC b (r.takeWhile isC) = (65533, 1)
  ·
   rw [if_pos he, if_pos he, if_pos (by omega)]
   simp
  ·
   rw [if_neg he, if_neg he, if_neg (by omega), xml_f, Option.bind_some]
   by_cases hx : xmlB (decC b (r.takeWhile isC)).1 = true
   ·
    rw [if_pos hx, if_pos hx, baOf_size, w_succ i (by omega)]
    have hsz : (b :: r.take ((decC b (r.takeWhile isC)).2 - 1)).length = (decC b (r.takeWhile isC)).2 := by
     rw [List.length_cons, List.length_take]
     omega
    rw [hsz]
    have hw : wrap64 ((at_ : Int) + ((decC b (r.takeWhile isC)).2 : Nat)) = ((at_ + (decC b (r.takeWhile isC)).2 : Nat) : Int) := by unfold wrap64; omega
    rw [hw, check_l0 L d (r.drop ((decC b (r.takeWhile isC)).2 - 1)) (at_ + (decC b (r.takeWhile isC)).2) (i + 1) k (by simp; omega) hd2.symm (by omega) hl (by simp; omega) (by simp; omega) (by omega)]
    congr 3
    omega
   ·
    rw [if_neg hx, if_neg hx]
    simp
theorem chL_length : ∀ (d : Nat) (l : List UInt8), (chL d l).length ≤ d
 | 0, _ => by simp [chL]
 | d + 1, [] => by simp [chL]
 | d + 1, b :: r => by
  have := chL_length d (r.drop ((decC b (r.takeWhile isC)).2 - 1))
  simp only [chL, List.length_cons]
  omega
theorem refCheck (s : ByteArray) (hs : s.size ≤ 5000) : ∀ k, 6000 ≤ k → remitterref08_Check.f k s = some (((ckL s.data.toList).1 : Int), (ckL s.data.toList).2) := by
 intro k hk
 unfold remitterref08_Check.f remitterref05_Chars.f
 have h1 := chars_l0 s hs s.size 0 [] k (by omega) (by omega) (by simp) (by omega)
 rw [show (0 : Int) = ((0 : Nat) : Int) from rfl, h1, Option.bind_some, List.nil_append, List.drop_zero]
 have h2 := check_l0 (chL s.size s.data.toList) s.size s.data.toList 0 0 k (by simp) rfl (by omega) (by have := chL_length s.size s.data.toList; omega) (by rw [← sz_list]; omega) (by simp; omega) (by omega)
 rw [h2]
 unfold ckL
 rw [← sz_list, Nat.zero_add]
/-! References. -/
theorem digit4 : ∀ n : Nat, n < 256 → ∀ base ∈ ([10, 16] : List Nat), remitterref08_digit.f 4 (n : Int) (base : Int) = some (match digV base (UInt8.ofNat n) with | some d => (d : Int) | none => -1) := by
 decide +kernel
theorem digit_k (b : UInt8) (base : Nat) (h : base = 10 ∨ base = 16) : ∀ k, 4 ≤ k → remitterref08_digit.f k (b.toNat : Int) (base : Int) = some (match digV base b with | some d => (d : Int) | none => -1) := by
 have h4 := digit4 b.toNat b.toNat_lt base (by simp; omega)
 rw [show UInt8.ofNat b.toNat = b by simp] at h4
 exact up (f := fun k => remitterref08_digit.f k (b.toNat : Int) (base : Int)) (fun k => remitterref08_digit.mono _ _ k) h4
theorem digV_lt (base : Nat) (b : UInt8) (d : Nat) (h : digV base b = some d) : d < base := by
 unfold digV at h
 split at h
 ·
  have := Option.some.inj h; omega
 ·
  cases h
def refI (o : Option Nat) : Int := match o with | some n => (n : Int) | none => -1
theorem num_l0 (x : ByteArray) (base : Nat) (hb : base = 10 ∨ base = 16) : ∀ (d i n k : Nat), i + d = x.size → x.size ≤ 8 → n < 16 ^ i → d + 6 ≤ k →
  remitterref08_inside.l0 k x (base : Int) (n : Int) (i : Int) = some (refI ((numV base (x.data.toList.drop i) n).bind fun n => if xmlB n = true then some n else none))
 | 0, i, n, k, h, hx, hn, hk => by
  obtain ⟨k, rfl⟩ : ∃ j, k = j + 1 := ⟨k - 1, by omega⟩
  simp only [remitterref08_inside.l0]
  rw [if_neg (by omega), xml_f, Option.bind_some, List.drop_of_length_le (by simp; omega)]
  simp only [numV, Option.bind_some]
  split
  ·
   rfl
  ·
   rfl
 | d + 1, i, n, k, h, hx, hn, hk => by
  obtain ⟨k, rfl⟩ : ∃ j, k = j + 1 := ⟨k - 1, by omega⟩
  simp only [remitterref08_inside.l0]
  have hi : i < x.size := by omega
  rw [if_pos (by omega), if_pos (by omega), bt_of x i hi, digit_k _ base hb _ (by omega), Option.bind_some, drop_at x i hi]
  simp only [numV]
  cases hd : digV base x[i] with
  | none =>
   simp only [Option.bind_none]
   rw [if_pos (by omega)]
   rfl
  | some v =>
   have hv := digV_lt _ _ _ hd
   simp only [Option.bind_some]
   have h16 : 16 ^ i ≤ 16 ^ 7 := Nat.pow_le_pow_right (by omega) (by omega)
   have h16' : (16 : Nat) ^ 7 = 268435456 := by decide
   have hp : (16 : Nat) ^ (i + 1) = 16 ^ i * 16 := Nat.pow_succ 16 i
   have hle : n * base + v < 16 ^ (i + 1) := by
    rcases hb with rfl | rfl <;> omega
   have e1 : wrap64 ((base : Int) * (n : Int)) = ((n * base : Nat) : Int) := by
    rcases hb with rfl | rfl <;> (unfold wrap64; omega)
   rw [if_neg (by omega), e1, w_succ i (by omega)]
   have e2 : wrap64 (((n * base : Nat) : Int) + (v : Int)) = ((n * base + v : Nat) : Int) := by
    rcases hb with rfl | rfl <;> (unfold wrap64; omega)
   rw [e2]
   exact num_l0 x base hb d (i + 1) _ k (by omega) hx hle (by omega)
theorem num_j1 (x : ByteArray) (base : Nat) (hb : base = 10 ∨ base = 16) (k : Nat) (hk : 18 ≤ k) : remitterref08_inside.j1 k x (base : Int) = some (refI (numRef base x.data.toList)) := by
 obtain ⟨k, rfl⟩ : ∃ j, k = j + 2 := ⟨k - 2, by omega⟩
 simp only [remitterref08_inside.j1]
 unfold numRef
 by_cases h0 : x.size = 0
 ·
  rw [if_pos (by omega)]
  simp only [remitterref08_inside.j2, if_true]
  rw [if_pos (.inl (List.eq_nil_of_length_eq_zero (by simpa using h0)))]
  rfl
 rw [if_neg (by omega)]
 have hne : x.data.toList ≠ [] := by
  intro e
  have := congrArg List.length e
  simp at this
  exact h0 (by simpa using this)
 by_cases h8 : 8 < x.size
 ·
  rw [decide_eq_true (by omega)]
  simp only [remitterref08_inside.j2, if_true]
  rw [if_pos (.inr (by simpa using h8))]
  rfl
 ·
  rw [decide_eq_false (by omega)]
  simp only [remitterref08_inside.j2, Bool.false_eq_true, if_false]
  rw [if_neg (by rintro (h | h); (exact hne h); (exact h8 (by simpa using h)))]
  have := num_l0 x base hb x.size 0 0 k (by omega) (by omega) (by simp) (by omega)
  rw [List.drop_zero] at this
  exact this
theorem refInside (x : ByteArray) (k : Nat) (hk : 20 ≤ k) : remitterref08_inside.f k x = some (refI (refV x.data.toList)) := by
 unfold remitterref08_inside.f
 rw [toL]
 by_cases h1 : x.data.toList = [97, 109, 112]
 ·
  rw [if_pos h1, h1]; rfl
 rw [if_neg h1]
 by_cases h2 : x.data.toList = [108, 116]
 ·
  rw [if_pos h2, h2]; rfl
 rw [if_neg h2]
 by_cases h3 : x.data.toList = [103, 116]
 ·
  rw [if_pos h3, h3]; rfl
 rw [if_neg h3]
 by_cases h4 : x.data.toList = [113, 117, 111, 116]
 ·
  rw [if_pos h4, h4]; rfl
 rw [if_neg h4]
 by_cases h5 : x.data.toList = [97, 112, 111, 115]
 ·
  rw [if_pos h5, h5]; rfl
 rw [if_neg h5]
 obtain ⟨k, rfl⟩ : ∃ j, k = j + 1 := ⟨k - 1, by omega⟩
 have hsz := sz_list x
 cases hx : x.data.toList with
 | nil =>
  rw [hx] at hsz
  rw [if_pos (by rw [hsz]; simp)]
  rfl
 | cons b r =>
  rw [hx] at hsz h1 h2 h3 h4 h5
  simp only [List.length_cons] at hsz
  have b0 : bt x 0 = (b.toNat : Int) := by
   have := bt_list x 0 (by rw [hx]; simp)
   simp only [hx] at this
   exact this
  by_cases hb : b = 35
  ·
   subst hb
   cases r with
   | nil =>
    simp only [List.length_nil] at hsz
    rw [if_pos (by omega)]
    rfl
   | cons c q =>
    simp only [List.length_cons] at hsz
    rw [if_neg (by omega), if_pos (by omega), b0, show ((((35 : UInt8).toNat : Int)) != 35) = false from rfl]
    simp only [remitterref08_inside.j0, Bool.false_eq_true, if_false]
    have hx1 : (x.extract 1 x.size).data.toList = c :: q := by
     rw [ext_list, hx, hsz]
     simp
    have hs1 : (x.extract 1 x.size).size = q.length + 1 := by rw [sz_list, hx1]; rfl
    have hb1 : bt (x.extract 1 x.size) 0 = (c.toNat : Int) := by
     have := bt_list (x.extract 1 x.size) 0 (by rw [hx1]; simp)
     simp only [hx1] at this
     exact this
    rw [if_pos (by omega), if_pos (by omega), hb1]
    by_cases hc : c = 120
    ·
     subst hc
     rw [if_pos (show (((120 : UInt8).toNat : Nat) : Int) = 120 from rfl), if_pos (by omega)]
     have hx2 : ((x.extract 1 x.size).extract 1 (x.extract 1 x.size).size).data.toList = q := by
      rw [ext_list, hx1, hs1]
      simp
     rw [show (16 : Int) = ((16 : Nat) : Int) from rfl, num_j1 _ 16 (.inr rfl) k (by omega), hx2]
     rfl
    ·
     rw [if_neg (byte_ne (c := 120) (z := 120) rfl hc), show (10 : Int) = ((10 : Nat) : Int) from rfl, num_j1 _ 10 (.inl rfl) k (by omega), hx1]
     congr 2
     unfold refV
     split
     ·
      rename_i heq
      exact absurd (List.cons.inj (List.cons.inj heq).2).1 hc
     ·
      rename_i heq
      rw [← (List.cons.inj heq).2]
     ·
      rename_i h6 h7
      exact absurd rfl (h7 _)
  ·
   have hrv : refV (b :: r) = none := by
    unfold refV
    split
    ·
     rename_i heq
     exact absurd (List.cons.inj heq).1 hb
    ·
     rename_i heq
     exact absurd (List.cons.inj heq).1 hb
    ·
     rw [if_neg h1, if_neg h2, if_neg h3, if_neg h4, if_neg h5]
   rw [hrv]
   by_cases h6 : x.size < 2
   ·
    rw [if_pos (by omega)]
    rfl
   ·
    rw [if_neg (by omega), if_pos (by omega), b0]
    have hne : ((b.toNat : Int) != 35) = true := by
     rw [bne_iff_ne]
     exact byte_ne (c := 35) (z := 35) rfl hb
    rw [hne]
    rfl
theorem numV_xml (base : Nat) (l : List UInt8) (n : Nat) (h : numRef base l = some n) : xmlB n = true := by
 unfold numRef at h
 split at h
 ·
  cases h
 ·
  cases hv : numV base l 0 with
  | none => rw [hv] at h; cases h
  | some m =>
   rw [hv] at h
   simp only [Option.bind_some] at h
   split at h
   ·
    have := Option.some.inj h
    subst this
    assumption
   ·
    cases h
theorem refV_xml (l : List UInt8) (n : Nat) (h : refV l = some n) : xmlB n = true := by
 unfold refV at h
 split at h
 ·
  exact numV_xml _ _ _ h
 ·
  exact numV_xml _ _ _ h
 ·
  repeat' split at h
  all_goals first
   | (have := Option.some.inj h; subst this; rfl)
   | cases h
theorem numRef_len (base : Nat) (l : List UInt8) (n : Nat) (h : numRef base l = some n) : l.length ≤ 8 := by
 unfold numRef at h
 split at h
 ·
  cases h
 ·
  omega
theorem refV_len (l : List UInt8) (n : Nat) (h : refV l = some n) : l.length ≤ 10 := by
 unfold refV at h
 split at h
 ·
  have := numRef_len _ _ _ h
  simp only [List.length_cons]
  omega
 ·
  have := numRef_len _ _ _ h
  simp only [List.length_cons]
  omega
 ·
  repeat' split at h
  all_goals first
   | (subst l; simp)
   | (rename_i hq; rw [hq]; simp)
   | cases h
theorem strOf_list (l : List Int) (m : List Int) (h : l = m) : strOfNums l = baOf (m.map fun x => x.toNat.toUInt8) := by
 subst h
 rfl
theorem refPut (n : Nat) (h : xmlB n = true) : remitterref08_Put.f (n : Int) = some (baOf (Lib.encodeRune (n : Int))) := by
 have hn : n ≤ 55295 ∨ (57344 ≤ n ∧ n ≤ 1114111) := by
  unfold xmlB at h
  simp at h
  omega
 unfold remitterref08_Put.f Lib.encodeRune
 have d1 : (n : Int) / 64 = ((n / 64 : Nat) : Int) := by omega
 have d2 : (n : Int) / 4096 = ((n / 4096 : Nat) : Int) := by omega
 have d3 : (n : Int) / 262144 = ((n / 262144 : Nat) : Int) := by omega
 have o1 : ∀ m : Nat, m < 64 → bits .or .i64 128 (m : Int) = ((128 + m : Nat) : Int) := fun m hm => or_head 128 m 6 2 (by omega) (by omega) (by omega) (by omega)
 have o2 : ∀ m : Nat, m < 64 → bits .or .i64 192 (m : Int) = ((192 + m : Nat) : Int) := fun m hm => or_head 192 m 6 3 (by omega) (by omega) (by omega) (by omega)
 have o3 : ∀ m : Nat, m < 32 → bits .or .i64 224 (m : Int) = ((224 + m : Nat) : Int) := fun m hm => or_head 224 m 5 7 (by omega) (by omega) (by omega) (by omega)
 have o4 : ∀ m : Nat, m < 16 → bits .or .i64 240 (m : Int) = ((240 + m : Nat) : Int) := fun m hm => or_head 240 m 4 15 (by omega) (by omega) (by omega) (by omega)
 by_cases h1 : n < 128
 ·
  rw [if_pos (by omega), Lib.encodeRuneZ_one (by omega) (by omega)]
  refine congrArg some (strOf_list _ _ ?_)
  congr 1
  omega
 rw [if_neg (by omega)]
 by_cases h2 : n < 2048
 ·
  rw [if_pos (by omega), Lib.encodeRuneZ_two (by omega) (by omega), d1, mask63_i64 n (by omega), o1 _ (by omega), o2 _ (by omega)]
  refine congrArg some (strOf_list _ _ ?_)
  congr 1
  ·
   omega
  ·
   congr 1
   omega
 rw [if_neg (by omega)]
 by_cases h3 : n < 65536
 ·
  rw [if_pos (by omega), Lib.encodeRuneZ_three (by omega), d1, d2, mask63_i64 n (by omega), mask63_i64 (n / 64) (by omega), o1 _ (by omega), o1 _ (by omega), o3 _ (by omega)]
  refine congrArg some (strOf_list _ _ ?_)
  congr 1
  ·
   omega
  ·
   congr 1
   ·
    omega
   ·
    congr 1
    omega
 ·
  rw [if_neg (by omega), Lib.encodeRuneZ_four (by omega) (by omega), d1, d2, d3, mask63_i64 n (by omega), mask63_i64 (n / 64) (by omega), mask63_i64 (n / 4096) (by omega), o1 _ (by omega), o1 _ (by omega), o1 _ (by omega), o4 _ (by omega)]
  refine congrArg some (strOf_list _ _ ?_)
  congr 1
  ·
   omega
  ·
   congr 1
   ·
    omega
   ·
    congr 1
    ·
     omega
    ·
     congr 1
     omega
theorem encode_le (n : Int) : (Lib.encodeRune n).length ≤ 4 := by
 unfold Lib.encodeRune Lib.encodeRuneZ
 repeat' split
 all_goals simp
/-! The reference's Unescape. -/
def jump (k : Nat) (s out : ByteArray) (i : Nat) : Option Nat → Option (ByteArray × Int × Int)
 | none => some (⟨#[]⟩, (i : Int), 22)
 | some e => remitterref08_Unescape.j3 k s out (i : Int) ((i + 1 + e : Nat) : Int) false
theorem scan_j2 (s out : ByteArray) (i e k : Nat) (hk : 3 ≤ k) : remitterref08_Unescape.j2 k s out (i : Int) (e : Int) = if h : e < s.size then (if s[e] = 59 then remitterref08_Unescape.j3 (k - 1) s out (i : Int) (e : Int) false else some (⟨#[]⟩, (i : Int), 22)) else some (⟨#[]⟩, (i : Int), 22) := by
 obtain ⟨k, rfl⟩ : ∃ j, k = j + 2 := ⟨k - 2, by omega⟩
 simp only [remitterref08_Unescape.j2]
 by_cases h : e < s.size
 ·
  rw [if_neg (by omega), if_pos (by omega), if_pos (by omega), dif_pos h, bt_of s e h]
  by_cases h59 : s[e] = 59
  ·
   rw [if_pos h59, h59]
   rfl
  ·
   rw [if_neg h59]
   have : ((s[e].toNat : Int) != 59) = true := by
    rw [bne_iff_ne]
    exact byte_ne (c := 59) (z := 59) rfl h59
   rw [this]
   simp only [remitterref08_Unescape.j3, if_true]
 ·
  rw [if_pos (by omega), dif_neg h]
  simp only [remitterref08_Unescape.j3, if_true]
theorem scan_l1 (s out : ByteArray) (hs : s.size ≤ 5000) (i K : Nat) (R : ByteArray × Int × Int) : ∀ (m j k : Nat), j + m = 14 → 1 ≤ m →
  (∀ k', K ≤ k' → jump k' s out i ((semi ((s.data.toList.drop (i + 1 + j)).take m)).map fun a => a.length + j) = some R) → K + m + 4 ≤ k → i < s.size →
  remitterref08_Unescape.l1 k s out (i : Int) ((i + 1 + j : Nat) : Int) = some R
 | 0, j, k, hm, h1, hR, hk, hi => by omega
 | m + 1, j, k, hm, h1, hR, hk, hi => by
  obtain ⟨k, rfl⟩ : ∃ j, k = j + 1 := ⟨k - 1, by omega⟩
  simp only [remitterref08_Unescape.l1]
  by_cases hlt : i + 1 + j < s.size
  ·
   rw [if_pos (by omega), if_pos (by omega), bt_of s (i + 1 + j) hlt]
   rw [drop_at s (i + 1 + j) hlt, List.take_succ_cons] at hR
   simp only [semi] at hR
   by_cases h59 : s[i + 1 + j] = 59
   ·
    rw [h59, if_pos (show (((59 : UInt8).toNat : Nat) : Int) = 59 from rfl), scan_j2 s out i (i + 1 + j) k (by omega), dif_pos hlt, if_pos h59]
    have := hR (k - 1) (by omega)
    rw [if_pos h59] at this
    simp only [Option.map_some, List.length_nil, Nat.zero_add, jump] at this
    exact this
   ·
    rw [if_neg (byte_ne (c := 59) (z := 59) rfl h59)]
    rw [if_neg h59] at hR
    have hw14 : wrap64 ((i : Int) + 14) = ((i + 14 : Nat) : Int) := by unfold wrap64; omega
    rw [hw14, w_succ (i + 1 + j) (by omega)]
    by_cases hm1 : m = 0
    ·
     subst hm1
     rw [if_neg (by omega), scan_j2 s out i (i + 1 + j) k (by omega), dif_pos hlt, if_neg h59]
     have := hR k (by omega)
     simp only [List.take_zero, semi, Option.map_none, jump] at this
     exact this
    ·
     rw [if_pos (by omega)]
     refine scan_l1 s out hs i K R m (j + 1) k (by omega) (by omega) ?_ (by omega) hi
     intro k' hk'
     rw [← hR k' hk', Option.map_map]
     congr 2
     funext a
     simp
     omega
  ·
   rw [if_neg (by omega), scan_j2 s out i (i + 1 + j) k (by omega), dif_neg hlt]
   have := hR k (by omega)
   rw [List.drop_of_length_le (by simp; omega)] at this
   simp only [List.take_nil, semi, Option.map_none, jump] at this
   exact this
theorem semi_app : ∀ (a q : List UInt8), (∀ c ∈ a, c ≠ 59) → semi (a ++ 59 :: q) = some a
 | [], q, _ => by simp [semi]
 | c :: a, q, h => by
  rw [List.cons_append]
  simp only [semi]
  rw [if_neg (h c (by simp)), semi_app a q fun x hx => h x (List.mem_cons_of_mem _ hx)]
  rfl
theorem semi_inv : ∀ (l a : List UInt8), semi l = some a → ∃ q, l = a ++ 59 :: q ∧ ∀ c ∈ a, c ≠ 59
 | [], a, h => by simp [semi] at h
 | c :: l, a, h => by
  simp only [semi] at h
  by_cases hc : c = 59
  ·
   rw [if_pos hc] at h
   obtain rfl := Option.some.inj h
   exact ⟨l, by rw [hc]; rfl, fun _ h => by simp at h⟩
  ·
   rw [if_neg hc] at h
   cases hr : semi l with
   | none => rw [hr] at h; cases h
   | some b =>
    rw [hr] at h
    obtain rfl := Option.some.inj h
    obtain ⟨q, h1, h2⟩ := semi_inv l b hr
    refine ⟨q, by rw [h1]; rfl, ?_⟩
    intro x hx
    rcases List.mem_cons.1 hx with rfl | hx
    ·
     exact hc
    ·
     exact h2 x hx
theorem semi_up (r a : List UInt8) (h : semi (r.take 13) = some a) : semi (r.take 14) = some a := by
 obtain ⟨q, h1, h2⟩ := semi_inv _ _ h
 have : r.take 14 = r.take 13 ++ (r.drop 13).take 1 := List.take_add (i := 13) (j := 1)
 rw [this, h1, List.append_assoc, List.cons_append]
 exact semi_app _ _ h2
theorem semi_down (r a : List UInt8) (h : semi (r.take 14) = some a) (hl : a.length ≤ 12) : semi (r.take 13) = some a := by
 obtain ⟨q, h1, h2⟩ := semi_inv _ _ h
 have : r.take 13 = (r.take 14).take 13 := by rw [List.take_take]; rfl
 rw [this, h1, List.take_append]
 obtain ⟨n, hn⟩ : ∃ n, 13 - a.length = n + 1 := ⟨12 - a.length, by omega⟩
 rw [hn, List.take_of_length_le (by omega), List.take_succ_cons]
 exact semi_app _ _ h2
theorem un_l0 (s : ByteArray) (hs : s.size ≤ 5000) : ∀ (n i : Nat) (out : ByteArray), s.size ≤ i + n → i ≤ s.size → out.size ≤ 4 * i →
  Ev (fun k => remitterref08_Unescape.l0 k s out (i : Int)) (baOf (un (s.data.toList.drop i) i out.data.toList).1, ((un (s.data.toList.drop i) i out.data.toList).2.1 : Int), (un (s.data.toList.drop i) i out.data.toList).2.2) := by
 intro n
 induction n with
 | zero =>
  intro i out h hi ho
  refine ⟨1, fun k hk => ?_⟩
  obtain ⟨k, rfl⟩ : ∃ j, k = j + 1 := ⟨k - 1, by omega⟩
  simp only [remitterref08_Unescape.l0]
  rw [if_neg (by omega), List.drop_of_length_le (by simp; omega), un_nil, show s.size = i by omega]
  rfl
 | succ n ih =>
  intro i out h hi ho
  by_cases hlt : i < s.size
  ·
   rw [drop_at s i hlt]
   by_cases h38 : s[i] = 38
   ·
    rw [h38]
    have hr : ∀ j, s.data.toList.drop (i + 1 + j) = (s.data.toList.drop (i + 1)).drop j := fun j => by rw [List.drop_drop]
    -- it begins a reference
    have start : ∀ K R, (∀ k', K ≤ k' → jump k' s out i ((semi ((s.data.toList.drop (i + 1)).take 14)).map fun a => a.length + 0) = some R) → Ev (fun k => remitterref08_Unescape.l0 k s out (i : Int)) R := by
     intro K R hR
     refine ⟨K + 30, fun k hk => ?_⟩
     obtain ⟨k, rfl⟩ : ∃ j, k = j + 1 := ⟨k - 1, by omega⟩
     simp only [remitterref08_Unescape.l0]
     rw [if_pos (by omega), if_pos (by omega), bt_of s i hlt, h38, if_pos (show (((38 : UInt8).toNat : Nat) : Int) = 38 from rfl), w_succ i (by omega)]
     exact scan_l1 s out hs i K R 14 0 k (by omega) (by omega) hR (by omega) hlt
    cases ho14 : semi ((s.data.toList.drop (i + 1)).take 14) with
    | none =>
     have h13 : semi ((s.data.toList.drop (i + 1)).take 13) = none := by
      cases h13 : semi ((s.data.toList.drop (i + 1)).take 13) with
      | none => rfl
      | some a => rw [semi_up _ _ h13] at ho14; cases ho14
     rw [un_bad _ _ _ (by rw [h13]; rfl)]
     exact start 0 _ (fun k' _ => by rw [ho14]; rfl)
    | some a =>
     obtain ⟨q, hq, ha⟩ := semi_inv _ _ ho14
     have hal : a.length + 1 ≤ ((s.data.toList.drop (i + 1)).take 14).length := by rw [hq]; simp
     have hl1 : (s.data.toList.drop (i + 1)).length = s.size - (i + 1) := by simp
     have htl : ((s.data.toList.drop (i + 1)).take 14).length ≤ s.size - (i + 1) := by rw [List.length_take]; omega
     have hx : (s.extract (i + 1) (i + 1 + a.length)).data.toList = a := by
      rw [ext_list, Nat.add_sub_cancel_left]
      have : (s.data.toList.drop (i + 1)).take a.length = ((s.data.toList.drop (i + 1)).take 14).take a.length := by
       rw [List.take_take]
       congr 1
       rw [List.length_take] at hal
       omega
      rw [this, hq, List.take_left]
     have hw1 := w_succ i (by omega)
     -- the step from the end on
     have j3 : ∀ k, 20 ≤ k → remitterref08_Unescape.j3 (k + 1) s out (i : Int) ((i + 1 + a.length : Nat) : Int) false = if refI (refV a) < 0 then some (⟨#[]⟩, (i : Int), 22) else (remitterref08_Put.f (refI (refV a))).bind fun t => if out.size + t.size ≤ 9223372036854775807 then remitterref08_Unescape.l0 k s (out ++ t) ((i + a.length + 2 : Nat) : Int) else none := by
      intro k hk
      simp only [remitterref08_Unescape.j3, Bool.false_eq_true, if_false]
      rw [hw1, if_pos (by omega), if_pos (by omega), if_pos (by omega), Int.toNat_natCast, Int.toNat_natCast, refInside _ k hk, hx, Option.bind_some]
      rw [w_succ (i + 1 + a.length) (by omega), show i + 1 + a.length + 1 = i + a.length + 2 by omega]
     cases hv : refV a with
     | none =>
      have h13 : (semi ((s.data.toList.drop (i + 1)).take 13)).bind (fun i => refV i) = none := by
       cases h13 : semi ((s.data.toList.drop (i + 1)).take 13) with
       | none => rfl
       | some a' =>
        rw [semi_up _ _ h13] at ho14
        obtain rfl := Option.some.inj ho14
        exact hv
      rw [un_bad _ _ _ h13]
      refine start 21 _ (fun k' hk' => ?_)
      rw [ho14]
      obtain ⟨k', rfl⟩ : ∃ j, k' = j + 1 := ⟨k' - 1, by omega⟩
      show remitterref08_Unescape.j3 (k' + 1) s out (i : Int) ((i + 1 + a.length : Nat) : Int) false = _
      rw [j3 k' (by omega), hv]
      rfl
     | some c =>
      have hc := refV_xml _ _ hv
      have hcl := refV_len _ _ hv
      have he4 := encode_le (c : Int)
      rw [un_ref _ _ _ _ _ (semi_down _ _ ho14 (by omega)) hv]
      have hdd : (s.data.toList.drop (i + 1)).drop (a.length + 1) = s.data.toList.drop (i + a.length + 2) := by
       rw [List.drop_drop]
       congr 1
       omega
      rw [hdd]
      obtain ⟨K, hK⟩ := ih (i + a.length + 2) (out ++ baOf (Lib.encodeRune (c : Int))) (by omega) (by omega) (by rw [ByteArray.size_append, baOf_size]; omega)
      rw [ba_app, baOf_list] at hK
      refine start (K + 21) _ (fun k' hk' => ?_)
      rw [ho14]
      obtain ⟨k', rfl⟩ : ∃ j, k' = j + 1 := ⟨k' - 1, by omega⟩
      show remitterref08_Unescape.j3 (k' + 1) s out (i : Int) ((i + 1 + a.length : Nat) : Int) false = _
      rw [j3 k' (by omega), hv]
      show (if (c : Int) < 0 then _ else (remitterref08_Put.f (c : Int)).bind _) = _
      rw [if_neg (by omega), refPut c hc, Option.bind_some, baOf_size, if_pos (by omega)]
      exact hK k' (by omega)
   ·
    rw [un_plain _ _ _ _ h38]
    obtain ⟨K, hK⟩ := ih (i + 1) (out ++ ⟨#[s[i]]⟩) (by omega) (by omega) (by rw [ByteArray.size_append, show (⟨#[s[i]]⟩ : ByteArray).size = 1 from rfl]; omega)
    rw [ba_app] at hK
    refine ⟨K + 1, fun k hk => ?_⟩
    obtain ⟨k, rfl⟩ : ∃ j, k = j + 1 := ⟨k - 1, by omega⟩
    simp only [remitterref08_Unescape.l0]
    rw [if_pos (by omega), if_pos (by omega), bt_of s i hlt, if_neg (byte_ne (c := 38) (z := 38) rfl h38), w_succ i (by omega), if_pos (by omega), if_pos (by omega), Int.toNat_natCast, Int.toNat_natCast, ext_one s i hlt, if_pos (by rw [show (⟨#[s[i]]⟩ : ByteArray).size = 1 from rfl]; omega)]
    exact hK k (by omega)
  ·
   refine ⟨1, fun k hk => ?_⟩
   obtain ⟨k, rfl⟩ : ∃ j, k = j + 1 := ⟨k - 1, by omega⟩
   simp only [remitterref08_Unescape.l0]
   rw [if_neg (by omega), List.drop_of_length_le (by simp; omega), un_nil, show s.size = i by omega]
   rfl
end Go.Proofs.YtknfpggiigncpaaGreatDoor.B
