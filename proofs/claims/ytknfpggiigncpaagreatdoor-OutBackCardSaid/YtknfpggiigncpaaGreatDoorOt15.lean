/- An element's form, attributes first: plain; and a put into a Builder. -/
import Derived.Test.YtknfpggiigncpaaGreatDoorOt5
import Derived.Test.YtknfpggiigncpaaGreatDoorCx0
import Derived.Test.YtknfpggiigncpaaGreatDoorXTok4
import Derived.Test.YtknfpggiigncpaaGreatDoorOt3
import Derived.Test.YtknfpggiigncpaaGreatDoorXUnesc
import Derived.Test.YtknfpggiigncpaaGreatDoorXOnce
set_option maxHeartbeats 4000000
set_option maxRecDepth 100000
set_option linter.unusedVariables false
set_option linter.unusedSimpArgs false
section
namespace Go.Proofs.YtknfpggiigncpaaGreatDoor.E
open Go.RowKit P YtknfpggiigncpaaGreatDoorW.PrintLast YtknfpggiigncpaaGreatDoorW.PrintMore
open YtknfpggiigncpaaGreatDoorW.PrintWords
def firstI (p : S24 → Bool) : List S24 → Nat → Int
 | [], _ => -1
 | x :: l, i => if p x = true then (i : Int) else firstI p l (i + 1)
theorem firstI_any (p : S24 → Bool) : ∀ (l : List S24) (i : Nat), decide (0 ≤ firstI p l i) = l.any p
 | [], _ => rfl
 | x :: l, i => by
  unfold firstI
  rw [List.any_cons]
  by_cases h : p x = true
  ·
   rw [if_pos h, h, Bool.true_or]; exact decide_eq_true (by omega)
  ·
   rw [if_neg h, Bool.eq_false_iff.2 h, Bool.false_or]; exact firstI_any p l (i + 1)
theorem idx84_any (p : S24 → Bool) (av : Value) (acc : List S24) (w : World) (A : Option Addr) (c : Nat) (hv : av = .slice A acc.length c) (hC : k24.C w A acc.length acc) (hl : acc.length ≤ 1048576)
  (hp : ∀ (x : S24) (A2 : Option Addr) (c2 : Nat) (wr : World), x ∈ acc → Below w.heap.size w wr → k24.C wr A2 x.f2.length x.f2 → x.f2.length ≤ c2 →
   Calls Tryz.prog 84 #[.agg #[.string x.f0, .string x.f1, .slice A2 x.f2.length c2]] wr fun e w' => e = .returned (.bool (p x)) ∧ Below wr.heap.size wr w') :
  Calls Tryz.prog 83 #[av, .func (.func 84) #[] #[]] w fun e w' => e = .returned (.int .i64 (firstI p acc 0)) ∧ Below w.heap.size w w' := by
 subst hv
 have HC := Lib.hid hC
 have HP := Lib.hid hp
 clear hC hp
 go_enter Tryz.func83, Tryz.ntmps83
 go_wp2_with fail
 go_loopg [8] (acc.length + 1) (fun kq v8 wr => ∃ i : Nat, v8 = .int .i64 i ∧ i ≤ acc.length ∧ Aside0 (kq + i = acc.length + 1) ∧ Aside0 (firstI p acc 0 = firstI p (acc.drop i) i) ∧ Aside0 (Below w.heap.size w wr))
 case atStart => exact ⟨0, rfl, Nat.zero_le _, ⟨rfl⟩, ⟨rfl⟩, ⟨Below.refl _ _⟩⟩
 case round =>
  obtain ⟨i, rfl, hi, HK, HM, HBl⟩ := hrel
  by_cases hlt : i < acc.length
  ·
   have hCw : k24.C wr A acc.length acc := Kd.C_below HC.out HBl.out
   obtain ⟨ad, A2, c2, e1, k0, k1, k2, l2, g2⟩ := at_T24 hCw (i : Int) (by omega) (by omega)
   subst e1
   simp at k0 k1 k2
   have hm : rd_T24 acc (i : Int) ∈ acc := by rw [rd_get acc i hlt]; exact List.getElem_mem hlt
   have hd : acc.drop i = rd_T24 acc (i : Int) :: acc.drop (i + 1) := by rw [List.drop_eq_getElem_cons hlt, rd_get acc i hlt]
   have HD := Lib.hid hd
   have HX := Lib.hid (HP.out _ A2 c2 wr hm HBl.out g2 l2)
   clear hCw hd hm g2 l2
   generalize rd_T24 acc (i : Int) = el at *
   cases hb : p el with
   | true =>
    go_wp2_with fail
    refine (HX.out).mono ?_
    rintro e w1 ⟨rfl, hb1⟩
    rw [hb]
    go_wp2_with fail
    go_ret
    refine ⟨?_, HBl.out.trans (hb1.mono HBl.out.size)⟩
    rw [HM.out, HD.out]
    simp [firstI, hb]
   | false =>
    go_wp2_with fail
    refine (HX.out).mono ?_
    rintro e w1 ⟨rfl, hb1⟩
    rw [hb]
    have hB1 := HBl.out.trans (hb1.mono HBl.out.size)
    clear hb1
    go_wp2_with fail
    go_roundg (acc.length - i)
    case measure => have := HK.out; omega
    case rel =>
     refine ⟨i + 1, by go_num, by omega, ⟨by omega⟩, ⟨?_⟩, ⟨hB1⟩⟩
     rw [HM.out, HD.out]
     simp [firstI, hb]
  ·
   go_wp2_with fail
   go_ret
   refine ⟨?_, HBl.out⟩
   rw [HM.out, List.drop_of_length_le (by omega)]
   rfl
theorem idx51_any (p : S24 → Bool) (av : Value) (acc : List S24) (w : World) (A : Option Addr) (c : Nat) (hv : av = .slice A acc.length c) (hC : k24.C w A acc.length acc) (hl : acc.length ≤ 1048576)
  (hp : ∀ (x : S24) (A2 : Option Addr) (c2 : Nat) (wr : World), x ∈ acc → Below w.heap.size w wr → k24.C wr A2 x.f2.length x.f2 → x.f2.length ≤ c2 →
   Calls Tryz.prog 51 #[.agg #[.string x.f0, .string x.f1, .slice A2 x.f2.length c2]] wr fun e w' => e = .returned (.bool (p x)) ∧ Below wr.heap.size wr w') :
  Calls Tryz.prog 83 #[av, .func (.func 51) #[] #[]] w fun e w' => e = .returned (.int .i64 (firstI p acc 0)) ∧ Below w.heap.size w w' := by
 subst hv
 have HC := Lib.hid hC
 have HP := Lib.hid hp
 clear hC hp
 go_enter Tryz.func83, Tryz.ntmps83
 go_wp2_with fail
 go_loopg [8] (acc.length + 1) (fun kq v8 wr => ∃ i : Nat, v8 = .int .i64 i ∧ i ≤ acc.length ∧ Aside0 (kq + i = acc.length + 1) ∧ Aside0 (firstI p acc 0 = firstI p (acc.drop i) i) ∧ Aside0 (Below w.heap.size w wr))
 case atStart => exact ⟨0, rfl, Nat.zero_le _, ⟨rfl⟩, ⟨rfl⟩, ⟨Below.refl _ _⟩⟩
 case round =>
  obtain ⟨i, rfl, hi, HK, HM, HBl⟩ := hrel
  by_cases hlt : i < acc.length
  ·
   have hCw : k24.C wr A acc.length acc := Kd.C_below HC.out HBl.out
   obtain ⟨ad, A2, c2, e1, k0, k1, k2, l2, g2⟩ := at_T24 hCw (i : Int) (by omega) (by omega)
   subst e1
   simp at k0 k1 k2
   have hm : rd_T24 acc (i : Int) ∈ acc := by rw [rd_get acc i hlt]; exact List.getElem_mem hlt
   have hd : acc.drop i = rd_T24 acc (i : Int) :: acc.drop (i + 1) := by rw [List.drop_eq_getElem_cons hlt, rd_get acc i hlt]
   have HD := Lib.hid hd
   have HX := Lib.hid (HP.out _ A2 c2 wr hm HBl.out g2 l2)
   clear hCw hd hm g2 l2
   generalize rd_T24 acc (i : Int) = el at *
   cases hb : p el with
   | true =>
    go_wp2_with fail
    refine (HX.out).mono ?_
    rintro e w1 ⟨rfl, hb1⟩
    rw [hb]
    go_wp2_with fail
    go_ret
    refine ⟨?_, HBl.out.trans (hb1.mono HBl.out.size)⟩
    rw [HM.out, HD.out]
    simp [firstI, hb]
   | false =>
    go_wp2_with fail
    refine (HX.out).mono ?_
    rintro e w1 ⟨rfl, hb1⟩
    rw [hb]
    have hB1 := HBl.out.trans (hb1.mono HBl.out.size)
    clear hb1
    go_wp2_with fail
    go_roundg (acc.length - i)
    case measure => have := HK.out; omega
    case rel =>
     refine ⟨i + 1, by go_num, by omega, ⟨by omega⟩, ⟨?_⟩, ⟨hB1⟩⟩
     rw [HM.out, HD.out]
     simp [firstI, hb]
  ·
   go_wp2_with fail
   go_ret
   refine ⟨?_, HBl.out⟩
   rw [HM.out, List.drop_of_length_le (by omega)]
   rfl
theorem idx87_any (p : S24 → Bool) (ga : Nat) (av : Value) (acc : List S24) (w : World) (A : Option Addr) (c : Nat) (hv : av = .slice A acc.length c) (hC : k24.C w A acc.length acc) (hl : acc.length ≤ 1048576)
  (hp : ∀ (x : S24) (A2 : Option Addr) (c2 : Nat) (wr : World), x ∈ acc → Below w.heap.size w wr → k24.C wr A2 x.f2.length x.f2 → x.f2.length ≤ c2 →
   Calls Tryz.prog 87 #[.agg #[.string x.f0, .string x.f1, .slice A2 x.f2.length c2], .pointer (some ⟨ga, 0, none⟩)] wr fun e w' => e = .returned (.bool (p x)) ∧ Below wr.heap.size wr w') :
  Calls Tryz.prog 83 #[av, .func (.func 87) #[] #[.pointer (some ⟨ga, 0, none⟩)]] w fun e w' => e = .returned (.int .i64 (firstI p acc 0)) ∧ Below w.heap.size w w' := by
 subst hv
 have HC := Lib.hid hC
 have HP := Lib.hid hp
 clear hC hp
 go_enter Tryz.func83, Tryz.ntmps83
 go_wp2_with fail
 go_loopg [8] (acc.length + 1) (fun kq v8 wr => ∃ i : Nat, v8 = .int .i64 i ∧ i ≤ acc.length ∧ Aside0 (kq + i = acc.length + 1) ∧ Aside0 (firstI p acc 0 = firstI p (acc.drop i) i) ∧ Aside0 (Below w.heap.size w wr))
 case atStart => exact ⟨0, rfl, Nat.zero_le _, ⟨rfl⟩, ⟨rfl⟩, ⟨Below.refl _ _⟩⟩
 case round =>
  obtain ⟨i, rfl, hi, HK, HM, HBl⟩ := hrel
  by_cases hlt : i < acc.length
  ·
   have hCw : k24.C wr A acc.length acc := Kd.C_below HC.out HBl.out
   obtain ⟨ad, A2, c2, e1, k0, k1, k2, l2, g2⟩ := at_T24 hCw (i : Int) (by omega) (by omega)
   subst e1
   simp at k0 k1 k2
   have hm : rd_T24 acc (i : Int) ∈ acc := by rw [rd_get acc i hlt]; exact List.getElem_mem hlt
   have hd : acc.drop i = rd_T24 acc (i : Int) :: acc.drop (i + 1) := by rw [List.drop_eq_getElem_cons hlt, rd_get acc i hlt]
   have HD := Lib.hid hd
   have HX := Lib.hid (HP.out _ A2 c2 wr hm HBl.out g2 l2)
   clear hCw hd hm g2 l2
   generalize rd_T24 acc (i : Int) = el at *
   cases hb : p el with
   | true =>
    go_wp2_with fail
    refine (HX.out).mono ?_
    rintro e w1 ⟨rfl, hb1⟩
    rw [hb]
    go_wp2_with fail
    go_ret
    refine ⟨?_, HBl.out.trans (hb1.mono HBl.out.size)⟩
    rw [HM.out, HD.out]
    simp [firstI, hb]
   | false =>
    go_wp2_with fail
    refine (HX.out).mono ?_
    rintro e w1 ⟨rfl, hb1⟩
    rw [hb]
    have hB1 := HBl.out.trans (hb1.mono HBl.out.size)
    clear hb1
    go_wp2_with fail
    go_roundg (acc.length - i)
    case measure => have := HK.out; omega
    case rel =>
     refine ⟨i + 1, by go_num, by omega, ⟨by omega⟩, ⟨?_⟩, ⟨hB1⟩⟩
     rw [HM.out, HD.out]
     simp [firstI, hb]
  ·
   go_wp2_with fail
   go_ret
   refine ⟨?_, HBl.out⟩
   rw [HM.out, List.drop_of_length_le (by omega)]
   rfl
theorem out_attr_f (x : S24) : out_attribute.f x.f0 x.f1 x.f2 = some (attrB x) := by
 unfold out_attribute.f strings_HasPrefix.f stringslite_HasPrefix.f attrB
 have h1 : (⟨#[64]⟩ : ByteArray).size = 1 := rfl
 rw [h1]
 by_cases h : x.f0.size = 0
 ·
  rw [if_neg (by omega), show x.f0.data.toList = [] from List.length_eq_zero_iff.1 (by rw [← B.sz_list]; exact h)]
  rfl
 ·
  have h' : 0 < x.f0.size := by omega
  have hd := B.drop_at x.f0 0 h'
  rw [List.drop_zero] at hd
  rw [if_pos (by omega), if_pos (by omega), if_pos (by omega), hd]
  simp only [Option.bind_some, Option.some.injEq]
  have e : (x.f0.extract 0 ((((1 : Nat) : Int)).toNat)).toList = [x.f0[0]'h'] := by
   rw [B.toL, B.ext_list, List.drop_zero, hd]
   rfl
  have e2 : (⟨#[64]⟩ : ByteArray).toList = [64] := by rw [B.toL]
  rw [e, e2]
  simp
theorem attr51 (x : S24) (A2 : Option Addr) (c2 : Nat) (w : World) (hr : k24.C w A2 x.f2.length x.f2) (hc : x.f2.length ≤ c2) :
  Calls Tryz.prog 51 #[.agg #[.string x.f0, .string x.f1, .slice A2 x.f2.length c2]] w fun e w' => e = .returned (.bool (attrB x)) ∧ Below w.heap.size w w' :=
 out_attribute.calls x.f0 x.f1 A2 c2 x.f2 (attrB x) w hr hc (out_attr_f x)
theorem not84 (x : S24) (A2 : Option Addr) (c2 : Nat) (w : World) (hr : k24.C w A2 x.f2.length x.f2) (hc : x.f2.length ≤ c2) :
  Calls Tryz.prog 84 #[.agg #[.string x.f0, .string x.f1, .slice A2 x.f2.length c2]] w fun e w' => e = .returned (.bool (!attrB x)) ∧ Below w.heap.size w w' := by
 have hu24 := Tryz.underlying24
 have HR := Lib.hid hr
 clear hr
 go_enter Tryz.func84, Tryz.ntmps84
 go_wp2_with fail
 refine (attr51 x A2 c2 _ (Kd.C_below HR.out (below_alloc (Below.refl _ _) _)) hc).mono ?_
 rintro e w1 ⟨rfl, hb1⟩
 have hB := (below_alloc (Below.refl w.heap.size w) _).trans (hb1.mono (by simp))
 clear hb1
 go_wp2_with fail
 go_ret
 exact ⟨rfl, hB⟩
theorem name87 (ga : Nat) (nm : ByteArray) (x : S24) (A2 : Option Addr) (c2 : Nat) (w : World) (hc : w.cell? ⟨ga, 0, none⟩ = some (.string nm)) :
  Calls Tryz.prog 87 #[.agg #[.string x.f0, .string x.f1, .slice A2 x.f2.length c2], .pointer (some ⟨ga, 0, none⟩)] w fun e w' => e = .returned (.bool (x.f0.toList == nm.toList)) ∧ Below w.heap.size w w' := by
 have hc' : (w.alloc (.cells #[.string x.f0, .string x.f1, .slice A2 x.f2.length c2] 24)).cell? ⟨ga, 0, none⟩ = some (.string nm) := cellBelow (below_alloc (Below.refl _ _) _) hc
 clear hc
 go_enter Tryz.func87, Tryz.ntmps87
 go_wp2
 go_ret
 exact ⟨rfl, below_alloc (Below.refl _ _) _⟩
theorem has51 (av : Value) (acc : List S24) (w : World) (A : Option Addr) (c : Nat) (hv : av = .slice A acc.length c) (hC : k24.C w A acc.length acc) (hl : acc.length ≤ 1048576) :
  Calls Tryz.prog 86 #[av, .func (.func 51) #[] #[]] w fun e w' => e = .returned (.bool (acc.any attrB)) ∧ Below w.heap.size w w' := by
 have H := idx51_any attrB av acc w A c hv hC hl (fun x A2 c2 wr _ _ h1 h2 => attr51 x A2 c2 wr h1 h2)
 have hz := firstI_any attrB acc 0
 generalize firstI attrB acc 0 = z at *
 subst hv
 clear hC
 go_enter Tryz.func86, Tryz.ntmps86
 go_wp2_with fail
 refine H.mono ?_
 rintro e w1 ⟨rfl, hb1⟩
 go_wp2_with fail
 go_ret
 exact ⟨rfl, hb1⟩
theorem has87 (ga : Nat) (nm : ByteArray) (av : Value) (acc : List S24) (w : World) (hc : w.cell? ⟨ga, 0, none⟩ = some (.string nm)) (A : Option Addr) (c : Nat) (hv : av = .slice A acc.length c) (hC : k24.C w A acc.length acc) (hl : acc.length ≤ 1048576) :
  Calls Tryz.prog 86 #[av, .func (.func 87) #[] #[.pointer (some ⟨ga, 0, none⟩)]] w fun e w' => e = .returned (.bool (acc.any fun x => x.f0.toList == nm.toList)) ∧ Below w.heap.size w w' := by
 have H := idx87_any (fun x => x.f0.toList == nm.toList) ga av acc w A c hv hC hl (fun x A2 c2 wr _ hB _ _ => name87 ga nm x A2 c2 wr (cellBelow hB hc))
 have hz := firstI_any (fun x => x.f0.toList == nm.toList) acc 0
 generalize firstI (fun x : S24 => x.f0.toList == nm.toList) acc 0 = z at *
 subst hv
 clear hC hc
 go_enter Tryz.func86, Tryz.ntmps86
 go_wp2_with fail
 refine H.mono ?_
 rintro e w1 ⟨rfl, hb1⟩
 go_wp2_with fail
 go_ret
 exact ⟨rfl, hb1⟩
theorem C_take {α : Type} {d : Kd α} {w : World} {A : Option Addr} {n : Nat} {xs : List α} (h : d.C w A n xs) (k : Nat) (hk : k ≤ n) : d.C w A k (xs.take k) := by
 obtain ⟨h1, h2, h3⟩ := h
 refine ⟨by rw [List.length_take]; omega, by omega, fun hp => ?_⟩
 obtain ⟨ad, e, hc⟩ := h3 (by omega)
 refine ⟨ad, e, fun j p hj => hc j p ?_⟩
 rw [List.getElem?_take] at hj
 split at hj
 ·
  exact hj
 ·
  cases hj
theorem add_add (ad : Addr) (a b : Nat) : (ad.add a).add b = ad.add (a + b) := by
 unfold Addr.add
 by_cases h1 : a = 0
 ·
  subst h1; simp
 ·
  by_cases h2 : b = 0
  ·
   subst h2; simp
  ·
   rw [if_neg h1, if_neg h2, if_neg (by omega)]
   simp [Nat.add_assoc]
theorem C_drop {α : Type} {d : Kd α} {w : World} {ad : Addr} {n : Nat} {xs : List α} (h : d.C w (some ad) n xs) (k : Nat) (hk : k ≤ n) : d.C w (some (ad.add (k * d.sz))) (n - k) (xs.drop k) := by
 obtain ⟨h1, h2, h3⟩ := h
 refine ⟨by rw [List.length_drop]; omega, by omega, fun hp => ?_⟩
 obtain ⟨ad', e, hc⟩ := h3 (by omega)
 cases e
 refine ⟨_, rfl, fun j p hj => ?_⟩
 rw [List.getElem?_drop] at hj
 obtain ⟨c, q1, q2, q3⟩ := hc (k + j) p hj
 refine ⟨c, q1, q2, fun i u hu => ?_⟩
 rw [add_add, ← q3 i u hu]
 congr 2
 rw [Nat.add_mul, Nat.add_assoc]
theorem firstI_not (l : List S24) (i : Nat) : firstI (fun x => !attrB x) l i = if attN l < l.length then ((i + attN l : Nat) : Int) else -1 := by
 induction l generalizing i with
 | nil => rfl
 | cons x l ih =>
  unfold firstI
  cases h : attrB x with
  | false =>
   have e : attN (x :: l) = 0 := by unfold attN; rw [List.takeWhile_cons_of_neg (by simp [h])]; rfl
   rw [e, if_pos (by simp), if_pos (by simp)]; simp
  | true =>
   have e : attN (x :: l) = attN l + 1 := by unfold attN; rw [List.takeWhile_cons_of_pos h]; rfl
   rw [if_neg (by simp), ih, e, List.length_cons]
   by_cases g : attN l < l.length
   ·
    rw [if_pos g, if_pos (by omega)]; simp; omega
   ·
    rw [if_neg g, if_neg (by omega)]
end Go.Proofs.YtknfpggiigncpaaGreatDoor.E
end
section
namespace Go.Proofs.YtknfpggiigncpaaGreatDoor.E
open Go.RowKit P B
open YtknfpggiigncpaaGreatDoorW.PrintWords
def attF (k : S24) : List UInt8 := 32 :: (atL k ++ ([61, 34] ++ (escL k.f1.data.toList ++ [34])))
def attsL : List S24 → List UInt8
 | [] => []
 | k :: l => (if attrB k = true then attF k else []) ++ attsL l
def formL (a b : ByteArray) (at_ inn sp : List UInt8) : List UInt8 := 60 :: (a.data.toList ++ (sp ++ (at_ ++ (62 :: (escL b.data.toList ++ (inn ++ (60 :: 47 :: (a.data.toList ++ [62]))))))))
def innerL : List S24 → List UInt8
 | [] => []
 | ⟨a, b, q⟩ :: l => (if attrB ⟨a, b, q⟩ = true then [] else formL a b (attsL q) (innerL q) []) ++ innerL l
def elemL (v : S24) (sp : List UInt8) : List UInt8 := formL v.f0 v.f1 (attsL v.f2) (innerL v.f2) sp
theorem escL_len : ∀ l : List UInt8, (escL l).length ≤ 6 * l.length
 | [] => by simp [escL]
 | b :: r => by
  rw [escL_cons]
  have := escL_len r
  have := escByte_len b
  simp only [List.length_append, List.length_cons]
  omega
theorem atL_len (k : S24) : (atL k).length ≤ k.f0.size := by
 unfold atL
 rw [List.length_drop, B.sz_list]
 omega
theorem parts_len : ∀ l : List S24, smallL l → (attsL l).length + (innerL l).length ≤ 20000 * cntL l
 | [], _ => by simp [attsL, innerL, cntL]
 | ⟨a, b, q⟩ :: l, h => by
  simp only [smallL] at h
  have h1 := parts_len q h.2.1
  have h2 := parts_len l h.2.2
  have h3 := escL_len b.data.toList
  have h4 := atL_len ⟨a, b, q⟩
  have h5 := B.sz_list a
  have h6 := B.sz_list b
  simp only [attsL, innerL, cntL]
  by_cases hb : attrB ⟨a, b, q⟩ = true
  ·
   rw [if_pos hb, if_pos hb]
   simp only [attF, List.length_append, List.length_cons, List.length_nil] at *
   omega
  ·
   rw [if_neg hb, if_neg hb]
   simp only [formL, List.length_append, List.length_cons, List.length_nil] at *
   omega
termination_by l => SizeOf.sizeOf l
def headL : List UInt8 := [60, 63, 120, 109, 108, 32, 118, 101, 114, 115, 105, 111, 110, 61, 34, 49, 46, 48, 34, 32, 101, 110, 99, 111, 100, 105, 110, 103, 61, 34, 85, 84, 70, 45, 56, 34, 63, 62, 10]
def spaceL (space : List UInt8) : List UInt8 := [32, 120, 109, 108, 110, 115, 61, 34] ++ (escL space ++ [34])
def writeT (space : ByteArray) (v : S24) : ByteArray × Int :=
 if space.size = 0 ∨ goodB space.data.toList = false ∨ mayP v = false then (⟨#[]⟩, 1)
 else if 1048576 < (headL ++ elemL v (spaceL space.data.toList)).length then (⟨#[]⟩, 3) else (⟨(headL ++ elemL v (spaceL space.data.toList)).toArray⟩, 0)
theorem attsL_append : ∀ (a b : List S24), attsL (a ++ b) = attsL a ++ attsL b
 | [], b => rfl
 | x :: a, b => by
  rw [List.cons_append, attsL, attsL, attsL_append a b, List.append_assoc]
theorem innerL_append : ∀ (a b : List S24), innerL (a ++ b) = innerL a ++ innerL b
 | [], b => by simp [innerL]
 | ⟨x, y, z⟩ :: a, b => by
  rw [List.cons_append, innerL, innerL, innerL_append a b, List.append_assoc]
theorem attsL_none (l : List S24) (h : l.any attrB = false) : attsL l = [] := by
 induction l with
 | nil => rfl
 | cons x l ih =>
  rw [List.any_cons, Bool.or_eq_false_iff] at h
  rw [attsL, if_neg (by rw [h.1]; simp), ih h.2]
  rfl
theorem innerL_none (l : List S24) (h : ∀ k ∈ l, attrB k = true) : innerL l = [] := by
 induction l with
 | nil => simp [innerL]
 | cons x l ih =>
  obtain ⟨a, b, c⟩ := x
  rw [innerL, if_pos (h _ List.mem_cons_self), ih (fun k hk => h k (List.mem_cons_of_mem _ hk))]
  rfl
theorem innerL_one (x : S24) (h : attrB x = false) : innerL [x] = elemL x [] := by
 obtain ⟨a, b, c⟩ := x
 rw [innerL, if_neg (by rw [h]; simp), innerL, List.append_nil]
 rfl
theorem att_mem (l : List S24) : ∀ k ∈ l.take (attN l), attrB k = true := by
 intro k hk
 rw [take_att] at hk
 exact tw_all l k hk
theorem one_parts (v : S24) (h : oneT v = true) : attsL v.f2 = attsL (v.f2.take (attN v.f2)) ∧ innerL v.f2 = innerL (v.f2.drop (attN v.f2)) ∧ (∀ k ∈ v.f2.drop (attN v.f2), attrB k = false) := by
 have hn : (v.f2.drop (attN v.f2)).any attrB = false := by
  unfold oneT at h
  simp only [Bool.and_eq_true, Bool.not_eq_true'] at h
  exact h.1.2
 refine ⟨?_, ?_, ?_⟩
 ·
  conv => lhs; rw [← List.take_append_drop (attN v.f2) v.f2]
  rw [attsL_append, attsL_none _ hn, List.append_nil]
 ·
  conv => lhs; rw [← List.take_append_drop (attN v.f2) v.f2]
  rw [innerL_append, innerL_none _ (att_mem v.f2), List.nil_append]
 ·
  intro k hk
  cases hb : attrB k with
  | false => rfl
  | true => rw [List.any_eq_true.2 ⟨k, hk, hb⟩] at hn; cases hn
def spOf (sp : ByteArray) : List UInt8 := if sp.size = 0 then [] else spaceL sp.data.toList
theorem put_calls (B b : Nat) (out : List UInt8) (s : ByteArray) (w : World) (h : Lib.IsBuilderF 65 5 B b (Lib.byteCells out) w) (hlen : out.length + s.size ≤ 140737488355328) (hBw : B ≤ w.heap.size) :
  Calls Tryz.prog 47 #[.pointer (some ⟨b, 0, none⟩), .string s] w fun e w' => e = .returned (.tuple #[.int .i64 s.size, .nilIface]) ∧ Lib.IsBuilderF 65 5 B b (Lib.byteCells (out ++ s.data.toList)) w' ∧ Below B w w' ∧ Lib.OthersKept 5 (some b) w w' := by
 refine (Tryz.Builder_WriteString_k B b _ s w h (by simp [Lib.byteCells]; omega) hBw).mono ?_
 rintro e w2 ⟨rfl, h2, h3, h4⟩
 exact ⟨rfl, .inr (builder_add h2 rfl), h3, h4⟩
theorem esc_calls (s : ByteArray) (w : World) (hs : s.size ≤ 5000) (hG : Glob w) : Calls Tryz.prog 31 #[.string s] w fun e w' => e = .returned (.string ⟨(escL s.data.toList).toArray⟩) ∧ Below w.heap.size w w' :=
 text_Escape.calls s _ w (escape_f s (by omega)) hG
end Go.Proofs.YtknfpggiigncpaaGreatDoor.E
end
