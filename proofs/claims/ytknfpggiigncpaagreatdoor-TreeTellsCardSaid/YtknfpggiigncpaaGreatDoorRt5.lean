/- The document's small functions against the program's: plain. -/
import Derived.Test.YtknfpggiigncpaaGreatDoorXTok2
import Derived.Test.YtknfpggiigncpaaGreatDoorLawTells
import Derived.Test.YtknfpggiigncpaaGreatDoorXTok6
set_option maxHeartbeats 8000000
set_option maxRecDepth 100000
set_option linter.unusedVariables false
set_option linter.unusedSimpArgs false
section
namespace Go.Proofs.YtknfpggiigncpaaGreatDoor.C
open Go.RowKit P B YtknfpggiigncpaaGreatDoorW.PrintWords YtknfpggiigncpaaGreatDoorW.PrintLast YtknfpggiigncpaaGreatDoorW.PrintMore
theorem rLet (b : UInt8) (r : Bool) (hr : isLet b = r) (w : World) : Calls Tryz.prog 97 #[.int .u8 (b.toNat : Int)] w fun e w' => e = .returned (.bool r) ∧ Drawn0 w w' := by
 have key : isLet b = (decide ((97 : Int) ≤ (b.toNat : Int)) && decide ((b.toNat : Int) ≤ 122) || decide ((65 : Int) ≤ (b.toNat : Int)) && decide ((b.toNat : Int) ≤ 90) || ((b.toNat : Int) == 95)) := by
  unfold isLet
  rw [Bool.eq_iff_iff]
  simp
  omega
 rw [hr] at key
 cases e1 : decide ((97 : Int) ≤ (b.toNat : Int)) <;> cases e2 : decide ((b.toNat : Int) ≤ 122) <;> cases e3 : decide ((65 : Int) ≤ (b.toNat : Int)) <;> cases e4 : decide ((b.toNat : Int) ≤ 90) <;> cases e5 : ((b.toNat : Int) == 95)
 all_goals
  rw [e1, e2, e3, e4, e5] at key
  subst key
  clear hr
  go_enter Tryz.func97, Tryz.ntmps97
  go_wp2_with fail
  go_ret
  exact ⟨rfl, dr0⟩
theorem hp_at (s t : ByteArray) (i : Nat) (h : i + t.size ≤ s.size) : Lib.hasPrefix (rs s i) t.data.toList = ((s.extract i (i + t.size)).toList == t.toList) := by
 rw [← rs_ext, ← Lib.hasPrefix_raw]
 have h1 : (s.extract i s.size).size = s.size - i := by simp
 have h2 : (s.extract i s.size).extract 0 t.size = s.extract i (i + t.size) := by
  apply ba_ext
  rw [ext_list, ext_list, ext_list, List.drop_zero, List.take_take]
  congr 1
  omega
 rw [h2, decide_eq_true (by omega), Bool.true_and]
theorem hp_off (s t : ByteArray) (i : Nat) (h : ¬ i + t.size ≤ s.size) (ht : 0 < t.size) : Lib.hasPrefix (rs s i) t.data.toList = false := by
 cases h2 : Lib.hasPrefix (rs s i) t.data.toList with
 | false => rfl
 | true =>
  have := Lib.hasPrefix_le h2
  rw [rs_len, ← Lib.size_eq] at this
  omega
theorem rAt (s t : ByteArray) (i : Nat) (r : Bool) (hr : Lib.hasPrefix (rs s i) t.data.toList = r) (w : World) (hi : i ≤ 4000000) (hs : s.size ≤ 4000000) (ht : 0 < t.size) (ht2 : t.size ≤ 100) :
  Calls Tryz.prog 56 #[.string s, .int .i64 i, .string t] w fun e w' => e = .returned (.bool r) ∧ Drawn0 w w' := by
 by_cases h : i + t.size ≤ s.size
 ·
  rw [hp_at s t i h] at hr
  have g1 : decide ((i : Int) + (t.size : Int) ≤ (s.size : Int)) = true := decide_eq_true (by omega)
  have hsl : ∀ w : World, (Instr.slice 9 (.string s) (some (.int .i64 (i : Int))) (some (.int .i64 ((i : Int) + (t.size : Int)))) none).run Tryz.prog w = .ok (.string (s.extract i (i + t.size))) w := fun w => slice_two s (i : Int) ((i : Int) + t.size) i (i + t.size) rfl (by omega) (by omega) (by omega) w
  go_enter Tryz.func56, Tryz.ntmps56
  go_wp2_with fail
  go_ret
  exact ⟨rfl, dr0⟩
 ·
  rw [hp_off s t i h ht] at hr
  subst hr
  have g1 : decide ((i : Int) + (t.size : Int) ≤ (s.size : Int)) = false := decide_eq_false (by omega)
  go_enter Tryz.func56, Tryz.ntmps56
  go_wp2_with fail
  go_ret
  exact ⟨rfl, dr0⟩
def findZ (s : ByteArray) (p : Nat) (t : List UInt8) : Int := if 0 ≤ Lib.index (rs s p) t then (p : Int) + Lib.index (rs s p) t else -1
theorem occ_rs (s : ByteArray) (p j : Nat) (t : List UInt8) : Lib.occAt (rs s p) t j = Lib.hasPrefix (rs s (p + j)) t := by
 unfold Lib.occAt Lib.hasPrefix rs
 rw [List.drop_drop]
theorem find_hit (s : ByteArray) (p j : Nat) (t : List UInt8) (h : ∀ k, k < j → Lib.hasPrefix (rs s (p + k)) t = false) (hj : Lib.hasPrefix (rs s (p + j)) t = true) (hp : p + j ≤ s.size) : findZ s p t = ((p + j : Nat) : Int) := by
 have := Lib.index_first (s := rs s p) (sub := t) (i := j) (by rw [rs_len]; omega) (by rw [occ_rs]; exact hj) (fun k hk => by rw [occ_rs]; exact h k hk)
 unfold findZ
 rw [this, if_pos (by omega)]
 omega
theorem find_miss (s : ByteArray) (p j : Nat) (t : List UInt8) (h : ∀ k, k < j → Lib.hasPrefix (rs s (p + k)) t = false) (ht : t ≠ []) (hp : s.size < p + j + t.length) : findZ s p t = -1 := by
 have ht1 : 0 < t.length := List.length_pos_iff.2 ht
 have := Lib.index_none (s := rs s p) (sub := t) (fun k hk => by
  rw [occ_rs]
  by_cases hkj : k < j
  ·
   exact h k hkj
  ·
   cases h2 : Lib.hasPrefix (rs s (p + k)) t with
   | false => rfl
   | true =>
    have := Lib.hasPrefix_le h2
    rw [rs_len] at this
    omega)
 unfold findZ
 rw [this, if_neg (by omega)]
theorem rFind (s t : ByteArray) (p : Nat) (r : Int) (hr : findZ s p t.data.toList = r) (w : World) (hp : p ≤ 4000000) (hs : s.size ≤ 4000000) (ht : 0 < t.size) (ht2 : t.size ≤ 100) :
  Calls Tryz.prog 57 #[.string s, .int .i64 p, .string t] w fun e w' => e = .returned (.int .i64 r) ∧ Drawn0 w w' := by
 have hr := Lib.hid hr
 have htn : t.data.toList ≠ [] := by intro h; rw [Lib.size_eq, h] at ht; exact absurd ht (by simp)
 have HT := Lib.hid htn
 clear htn
 go_enter Tryz.func57, Tryz.ntmps57
 go_wp2_with fail
 go_loopg [1] (s.size + 2) (fun kq v1 wr => ∃ q : Nat, v1 = .int .i64 q ∧ p ≤ q ∧ Aside0 ((q ≤ p ∨ q ≤ s.size) ∧ kq + (q - p) = s.size + 2) ∧ Aside0 (∀ k, k < q - p → Lib.hasPrefix (rs s (p + k)) t.data.toList = false) ∧ Drawn0 w wr)
 case atStart => exact ⟨p, rfl, Nat.le_refl _, ⟨.inl (Nat.le_refl _), by omega⟩, ⟨fun k hk => by omega⟩, Drawn0.refl _⟩
 case round =>
  obtain ⟨q, rfl, hpq, HK, HN, ⟨m, rfl⟩⟩ := hrel
  have hq4 : q ≤ 4000000 := by have := HK.out.1; omega
  by_cases h : q + t.size ≤ s.size
  ·
   have hh := hp_at s t q h
   have g1 : decide ((q : Int) + (t.size : Int) ≤ (s.size : Int)) = true := decide_eq_true (by omega)
   have hsl : ∀ w : World, (Instr.slice 9 (.string s) (some (.int .i64 (q : Int))) (some (.int .i64 ((q : Int) + (t.size : Int)))) none).run Tryz.prog w = .ok (.string (s.extract q (q + t.size))) w := fun w => slice_two s (q : Int) ((q : Int) + t.size) q (q + t.size) rfl (by omega) (by omega) (by omega) w
   cases hc : Lib.hasPrefix (rs s q) t.data.toList with
   | true =>
    rw [hc] at hh
    have hh1 := hh.symm
    have hh2 := beq_iff_eq.1 hh1
    clear hh
    have hR : r = (q : Int) := by
     rw [← hr.out, find_hit s p (q - p) _ HN.out (by rw [show p + (q - p) = q by omega]; exact hc) (by omega)]
     omega
    subst hR
    clear hc hr
    go_wp2_with fail
    go_ret
    exact ⟨rfl, dr0⟩
   | false =>
    rw [hc] at hh
    have hh1 := hh.symm
    have hh2 := beq_eq_false_iff_ne.1 hh1
    clear hh
    have HN2 : Aside0 (∀ k, k < q + 1 - p → Lib.hasPrefix (rs s (p + k)) t.data.toList = false) := ⟨fun k hk => by
     by_cases hkq : k < q - p
     ·
      exact HN.out k hkq
     ·
      rw [show p + k = q by omega]
      exact hc⟩
    clear hc
    go_wp2_with fail
    go_roundg (s.size + 1 - (q - p))
    case measure => have := HK.out.2; omega
    case rel => exact ⟨q + 1, by go_num, by omega, ⟨.inr (by omega), by omega⟩, HN2, dr0⟩
  ·
   have hR : r = -1 := by
    rw [← hr.out]
    exact find_miss s p (q - p) _ HN.out HT.out (by rw [← Lib.size_eq]; omega)
   subst hR
   clear hr
   have g1 : decide ((q : Int) + (t.size : Int) ≤ (s.size : Int)) = false := decide_eq_false (by omega)
   go_wp2_with fail
   go_ret
   exact ⟨rfl, dr0⟩
theorem rBlank (b : UInt8) (r : Bool) (hr : blankB b = r) (w : World) : Calls Tryz.prog 34 #[.string ⟨#[b]⟩] w fun e w' => e = .returned (.bool r) ∧ Drawn0 w w' := by
 obtain ⟨K, hK⟩ := blank_l0 ⟨#[b]⟩ (by show 1 ≤ 5000; omega) 1 0 rfl
 have h := hK K (Nat.le_refl _)
 refine remitterref08_Blank.calls K ⟨#[b]⟩ r w ?_
 refine Eq.trans h ?_
 rw [← hr]
 show some ([b].all blankB) = _
 simp
theorem rs_at (s : ByteArray) (p q : Nat) (h : p ≤ q) (hq : q < s.size) (h2 : q - p < (rs s p).length) : (rs s p)[q - p]'h2 = s[q]'hq := by
 have h3 : (rs s p)[q - p]? = s.data.toList[q]? := by
  unfold rs
  rw [List.getElem?_drop, show p + (q - p) = q by omega]
 rw [List.getElem?_eq_getElem h2, List.getElem?_eq_getElem (by rw [← Lib.size_eq]; exact hq)] at h3
 exact Option.some.inj h3
theorem rSkip (s : ByteArray) (p : Nat) (w : World) (hp : p ≤ 4000000) (hs : s.size ≤ 4000000) :
  Calls Tryz.prog 59 #[.string s, .int .i64 p] w fun e w' => e = .returned (.int .i64 ((p + blankN (rs s p) : Nat) : Int)) ∧ Drawn0 w w' := by
 have hN : blankN (rs s p) ≤ s.size - p := by rw [← rs_len]; exact (List.takeWhile_sublist _).length_le
 have hst := tw_stop (rs s p) blankB
 change ∀ (k : Nat) (h : k < (rs s p).length), k ≤ blankN (rs s p) → (_ ↔ k < blankN (rs s p)) at hst
 generalize hNN : blankN (rs s p) = N at *
 have Hst := Lib.hid hst
 clear hst hNN
 obtain ⟨R, hR⟩ : ∃ R : Int, R = ((p + N : Nat) : Int) := ⟨_, rfl⟩
 rw [← hR]
 replace hR := Lib.hid hR
 go_enter Tryz.func59, Tryz.ntmps59
 go_wp2_with fail
 go_loopg [1] (s.size + 2) (fun kq v1 wr => ∃ q : Nat, v1 = .int .i64 q ∧ p ≤ q ∧ q ≤ p + N ∧ Aside0 (kq + (q - p) = s.size + 2) ∧ Drawn0 w wr)
 case atStart => exact ⟨p, rfl, Nat.le_refl _, by omega, ⟨by omega⟩, Drawn0.refl _⟩
 case round =>
  obtain ⟨q, rfl, hpq, hqN, HK, ⟨m, rfl⟩⟩ := hrel
  by_cases h : q < s.size
  ·
   have hst := Hst.out (q - p) (by rw [rs_len]; omega) (by omega)
   rw [rs_at s p q hpq h] at hst
   have hsl : ∀ w : World, (Instr.slice 9 (.string s) (some (.int .i64 (q : Int))) (some (.int .i64 ((q : Int) + 1))) none).run Tryz.prog w = .ok (.string ⟨#[s[q]'h]⟩) w := fun w => by
    rw [← ext_one s q h]
    exact slice_two s (q : Int) ((q : Int) + 1) q (q + 1) rfl (by omega) (by omega) (by omega) w
   have hb := rBlank (s[q]'h)
   cases hc : blankB (s[q]'h) with
   | true =>
    have hqq : q < p + N := by have := hst.1 hc; omega
    have hb := hb true hc
    clear hst hc
    go_wp2_with fail
    refine (hb _).mono ?_
    rintro e w1 ⟨rfl, n1, rfl⟩
    go_wp2_with fail
    go_roundg (s.size + 1 - (q - p))
    case measure => have := HK.out; omega
    case rel => exact ⟨q + 1, by go_num, by omega, by omega, ⟨by omega⟩, dr0⟩
   | false =>
    have hqq : p + N = q := by
     have : ¬ q - p < N := by rw [← hst, hc]; simp
     omega
    have hb := hb false hc
    clear hst hc
    obtain rfl : R = (q : Int) := by rw [hR.out, hqq]
    clear hR
    go_wp2_with fail
    refine (hb _).mono ?_
    rintro e w1 ⟨rfl, n1, rfl⟩
    go_wp2_with fail
    go_ret
    exact ⟨rfl, dr0⟩
  ·
   have hqq : p + N = q := by omega
   obtain rfl : R = (q : Int) := by rw [hR.out, hqq]
   clear hR
   go_wp2_with fail
   go_ret
   exact ⟨rfl, dr0⟩
def nmEnd (s : ByteArray) (p : Nat) : Nat := if 100 < nmLen (rs s p) then p else p + nmLen (rs s p)
theorem rName (s : ByteArray) (p : Nat) (w : World) (hp : p ≤ 4000000) (hs : s.size ≤ 4000000) :
  Calls Tryz.prog 58 #[.string s, .int .i64 p] w fun e w' => e = .returned (.int .i64 (nmEnd s p : Int)) ∧ Drawn0 w w' := by
 have hN : nmLen (rs s p) ≤ s.size - p := by rw [← rs_len]; exact nmLen_le _
 have hst := nm_stop (rs s p)
 obtain ⟨R, hR⟩ : ∃ R : Int, R = (nmEnd s p : Int) := ⟨_, rfl⟩
 rw [← hR]
 unfold nmEnd at hR
 generalize hNN : nmLen (rs s p) = N at *
 have Hst := Lib.hid hst
 replace hR := Lib.hid hR
 clear hst hNN
 go_enter Tryz.func58, Tryz.ntmps58
 go_wp2_with fail
 go_loopg [5] (s.size + 2) (fun kq v1 wr => ∃ q : Nat, v1 = .int .i64 q ∧ p ≤ q ∧ q ≤ p + N ∧ Aside0 (kq + (q - p) = s.size + 2) ∧ Drawn0 w wr)
 case atStart => exact ⟨p, rfl, Nat.le_refl _, by omega, ⟨by omega⟩, Drawn0.refl _⟩
 case round =>
  obtain ⟨q, rfl, hpq, hqN, HK, ⟨m, rfl⟩⟩ := hrel
  have hend : p + N = q → (decide ((100 : Int) < (q : Int) - (p : Int)) = true ∧ R = (p : Int)) ∨ (decide ((100 : Int) < (q : Int) - (p : Int)) = false ∧ R = (q : Int)) := by
   intro h
   by_cases h1 : 100 < N
   ·
    exact .inl ⟨decide_eq_true (by omega), by rw [hR.out, if_pos h1]⟩
   ·
    exact .inr ⟨decide_eq_false (by omega), by rw [hR.out, if_neg h1, h]⟩
  by_cases h : q < s.size
  ·
   have hst := Hst.out (q - p) (by rw [rs_len]; omega) (by omega)
   rw [rs_at s p q hpq h] at hst
   have hb := rLet (s[q]'h)
   cases hc : isLet (s[q]'h) with
   | true =>
    have hqq : q < p + N := by have := hst.1 (by rw [hc]; rfl); omega
    have hb := hb true hc
    clear hst hc hend
    go_wp2_with fail
    refine (hb _).mono ?_
    rintro e w1 ⟨rfl, n1, rfl⟩
    go_wp2_with fail
    go_roundg (s.size + 1 - (q - p))
    case measure => have := HK.out; omega
    case rel => exact ⟨q + 1, by go_num, by omega, by omega, ⟨by omega⟩, dr0⟩
   | false =>
    have hb := hb false hc
    rw [hc, Bool.false_or] at hst
    by_cases hqp : p < q
    ·
     have key : (isDig (s[q]'h) || isSgn (s[q]'h)) = (decide ((48 : Int) ≤ ((s[q]'h).toNat : Int)) && decide (((s[q]'h).toNat : Int) ≤ 57) || (((s[q]'h).toNat : Int) == 45) || (((s[q]'h).toNat : Int) == 46) || (((s[q]'h).toNat : Int) == 58)) := by
      have hall : ∀ n : Nat, n < 256 → (isDig (UInt8.ofNat n) || isSgn (UInt8.ofNat n)) = (decide ((48 : Int) ≤ (n : Int)) && decide ((n : Int) ≤ 57) || ((n : Int) == 45) || ((n : Int) == 46) || ((n : Int) == 58)) := by decide +kernel
      have := hall (s[q]'h).toNat (s[q]'h).toNat_lt
      rw [show UInt8.ofNat (s[q]'h).toNat = s[q]'h by simp] at this
      exact this
     rw [key, decide_eq_true (show 0 < q - p by omega), Bool.true_and] at hst
     have g0 : decide ((p : Int) < (q : Int)) = true := decide_eq_true (by omega)
     have g0' : decide (p < q) = true := decide_eq_true hqp
     clear key hc
     cases e1 : decide ((48 : Int) ≤ ((s[q]'h).toNat : Int)) <;> cases e2 : decide (((s[q]'h).toNat : Int) ≤ 57) <;> cases e3 : (((s[q]'h).toNat : Int) == 45) <;> cases e4 : (((s[q]'h).toNat : Int) == 46) <;> cases e5 : (((s[q]'h).toNat : Int) == 58)
     all_goals
      rw [e1, e2, e3, e4, e5] at hst
      first
      |
       exfalso
       simp only [decide_eq_true_eq, decide_eq_false_iff_not, beq_iff_eq, beq_eq_false_iff_ne] at e1 e2 e3 e4 e5
       omega
      |
       have hqq : q < p + N := by have := hst.1 rfl; omega
       clear hst hend
       go_wp2_with fail
       refine (hb _).mono ?_
       rintro e w1 ⟨rfl, n1, rfl⟩
       go_wp2_with fail
       go_roundg (s.size + 1 - (q - p))
       case measure => have := HK.out; omega
       case rel => exact ⟨q + 1, by go_num, by omega, by omega, ⟨by omega⟩, dr0⟩
      |
       have hqq : p + N = q := by
        have : ¬ q - p < N := by rw [← hst]; decide
        omega
       clear hst
       rcases hend hqq with ⟨f1, rfl⟩ | ⟨f1, rfl⟩
       all_goals
        clear hR hend
        go_wp2_with fail
        refine (hb _).mono ?_
        rintro e w1 ⟨rfl, n1, rfl⟩
        go_wp2_with fail
        go_ret
        exact ⟨rfl, dr0⟩
    ·
     have hqq : p + N = q := by
      have : ¬ q - p < N := by rw [← hst, decide_eq_false (show ¬ 0 < q - p by omega)]; simp
      omega
     have g0 : decide ((p : Int) < (q : Int)) = false := decide_eq_false (by omega)
     have g0' : decide (p < q) = false := decide_eq_false hqp
     clear hst hc
     rcases hend hqq with ⟨f1, rfl⟩ | ⟨f1, rfl⟩
     all_goals
      clear hR hend
      go_wp2_with fail
      refine (hb _).mono ?_
      rintro e w1 ⟨rfl, n1, rfl⟩
      go_wp2_with fail
      go_ret
      exact ⟨rfl, dr0⟩
  ·
   have hqq : p + N = q := by omega
   rcases hend hqq with ⟨f1, rfl⟩ | ⟨f1, rfl⟩
   all_goals
    clear hR hend
    go_wp2_with fail
    go_ret
    exact ⟨rfl, dr0⟩
end Go.Proofs.YtknfpggiigncpaaGreatDoor.C
end
section
namespace Go.Proofs.YtknfpggiigncpaaGreatDoor.C
open Go.RowKit P B YtknfpggiigncpaaGreatDoorW.PrintWords
theorem nmEnd_le (s : ByteArray) (p : Nat) (hp : p ≤ s.size) : p ≤ nmEnd s p ∧ nmEnd s p ≤ s.size := by
 unfold nmEnd
 have := nmLen_le (rs s p)
 rw [rs_len] at this
 split <;> omega
theorem name_cases (s : ByteArray) (p : Nat) (hp : p ≤ s.size) : (nameT s p = .error (p, 21) ∧ nmEnd s p = p) ∨ (p < nmEnd s p ∧ nmEnd s p ≤ s.size ∧ nameT s p = .ok ((s.extract p (nmEnd s p)).data.toList, nmEnd s p)) := by
 by_cases h : nmLen (rs s p) = 0 ∨ 100 < nmLen (rs s p)
 ·
  refine .inl ⟨by unfold nameT; rw [if_pos h], ?_⟩
  unfold nmEnd
  rcases h with h | h
  ·
   rw [h]; rfl
  ·
   rw [if_pos h]
 ·
  have hn := nmEnd_le s p hp
  obtain ⟨h1, h2⟩ := not_or.1 h
  have hk : nmEnd s p = p + nmLen (rs s p) := by
   unfold nmEnd
   rw [if_neg h2]
  refine .inr ⟨by omega, hn.2, ?_⟩
  unfold nameT
  rw [if_neg h, ext_list, hk, show p + nmLen (rs s p) - p = nmLen (rs s p) by omega]
  rfl
theorem until_find (s : ByteArray) (p : Nat) (t : List UInt8) (hp : p ≤ s.size) : (findZ s p t = -1 ∧ untilT s p t = .error (p, 21)) ∨ (∃ e : Nat, findZ s p t = (e : Int) ∧ p ≤ e ∧ e + t.length ≤ s.size ∧ untilT s p t = .ok ((s.extract p e).data.toList, e + t.length)) := by
 unfold findZ untilT Lib.cut
 by_cases h : 0 ≤ Lib.index (rs s p) t
 ·
  obtain ⟨k, hk⟩ := Int.eq_ofNat_of_zero_le h
  have hr := Lib.index_room (rs s p) t h
  rw [rs_len] at hr
  rw [hk] at hr
  refine .inr ⟨p + k, ?_, by omega, by omega, ?_⟩
  ·
   rw [if_pos h, hk]
   omega
  ·
   simp only [if_pos h]
   rw [if_pos trivial, hk, ext_list]
   have hkl : ((rs s p).take (k : Int).toNat).length = k := by rw [List.length_take, rs_len]; simp; omega
   rw [hkl, show p + k - p = (k : Int).toNat by simp, Nat.add_assoc]
   rfl
 ·
  refine .inl ⟨by rw [if_neg h], ?_⟩
  simp only [if_neg h]
  rfl
theorem quote_bad (s : ByteArray) (v : Nat) : badQ ((rs s v).take 1) ↔ (Lib.hasPrefix (rs s v) [39] = false ∧ Lib.hasPrefix (rs s v) [34] = false) := by
 unfold badQ Lib.hasPrefix
 cases rs s v with
 | nil => simp
 | cons b l =>
  have e1 : ([39] : List UInt8).isPrefixOf (b :: l) = ((39 : UInt8) == b) := by simp [List.isPrefixOf]
  have e2 : ([34] : List UInt8).isPrefixOf (b :: l) = ((34 : UInt8) == b) := by simp [List.isPrefixOf]
  rw [e1, e2, show (b :: l).take 1 = [b] from rfl, beq_eq_false_iff_ne, beq_eq_false_iff_ne]
  constructor
  ·
   rintro ⟨h1, h2⟩
   exact ⟨fun h => h1 (by rw [h]), fun h => h2 (by rw [h])⟩
  ·
   rintro ⟨h1, h2⟩
   exact ⟨fun h => h1 (List.cons.inj h).1.symm, fun h => h2 (List.cons.inj h).1.symm⟩
theorem find_contains (s : ByteArray) (t : List UInt8) : Lib.contains s.data.toList t = decide (0 ≤ findZ s 0 t) := by
 unfold findZ Lib.contains rs
 rw [List.drop_zero]
 by_cases h : 0 ≤ Lib.index s.data.toList t
 ·
  rw [if_pos h, decide_eq_true h, decide_eq_true (by omega)]
 ·
  rw [if_neg h, decide_eq_false h, decide_eq_false (by omega)]
theorem rUnesc (s : ByteArray) (hs : s.size ≤ 5000) (w : World) : Calls Tryz.prog 30 #[.string s] w fun e w' => e = .returned (.tuple #[.string ⟨(un s.data.toList 0 []).1.toArray⟩, .int .i64 ((un s.data.toList 0 []).2.1 : Int), .int .i64 (un s.data.toList 0 []).2.2]) ∧ Below w.heap.size w w' := by
 obtain ⟨K, hK⟩ := un_l0 s hs s.size 0 ⟨#[]⟩ (by omega) (by omega) (Nat.zero_le _)
 refine remitterref08_Unescape.calls K s _ _ _ w ?_
 have := hK K (Nat.le_refl _)
 exact this
theorem head_one (s : ByteArray) (u : Nat) (c : UInt8) (h : Lib.hasPrefix (rs s u) [c] = true) : u < s.size ∧ (s.extract u (u + 1) = ⟨#[c]⟩ ∧ (rs s u).take 1 = [c]) := by
 have hl := Lib.hasPrefix_le h
 rw [rs_len] at hl
 simp at hl
 have hu : u < s.size := by omega
 have ht : (rs s u).take 1 = [c] := by
  unfold Lib.hasPrefix at h
  cases hr : rs s u with
  | nil => rw [hr] at h; cases h
  | cons b l =>
   rw [hr] at h
   have : c = b := by simpa [List.isPrefixOf] using h
   rw [this]
   rfl
 refine ⟨hu, ?_, ht⟩
 apply ba_ext
 rw [ext_list, Nat.add_sub_cancel_left]
 exact ht
end Go.Proofs.YtknfpggiigncpaaGreatDoor.C
end
