/- Parts of a row of parts: l[:k], l[k:]. -/
import Derived.Test.YtknfpggiigncpaaGreatDoorOt6
section
set_option linter.unusedVariables false
set_option linter.unusedSimpArgs false
namespace Go.Proofs.YtknfpggiigncpaaGreatDoor.E
open Go.RowKit Go.Proofs.YtknfpggiigncpaaGreatDoor.P Go.Proofs.YtknfpggiigncpaaGreatDoorW.PrintLast Go.Proofs.YtknfpggiigncpaaGreatDoorW.PrintMore
open Go.Proofs.YtknfpggiigncpaaGreatDoorW.PrintWords

theorem out_attr_f (x : S24) : out_attribute.f x.f0 x.f1 x.f2 = some (attrB x) := by
  unfold out_attribute.f strings_HasPrefix.f stringslite_HasPrefix.f attrB
  have h1 : (⟨#[64]⟩ : ByteArray).size = 1 := rfl
  rw [h1]
  by_cases h : x.f0.size = 0
  · rw [if_neg (by omega), show x.f0.data.toList = [] from List.length_eq_zero_iff.1 (by rw [← B.sz_list]; exact h)]
    rfl
  · have h' : 0 < x.f0.size := by omega
    have hd := B.drop_at x.f0 0 h'
    rw [List.drop_zero] at hd
    rw [if_pos (by omega), if_pos (by omega), if_pos (by omega), hd]
    simp only [Option.bind_some, Option.some.injEq]
    have e : (x.f0.extract 0 ((((1 : Nat) : Int)).toNat)).toList = [x.f0[0]'h'] := by
      rw [B.toL, B.ext_list, List.drop_zero, hd]
      rfl
    have e2 : (⟨#[64]⟩ : ByteArray).toList = [64] := by rw [B.toL]
    rw [e, e2]
    simp
theorem attr51 (x : S24) (A2 : Option Addr) (c2 : Nat) (w : World) (hr : k24.C w A2 x.f2.length x.f2) (hc : x.f2.length ≤ c2) :
    Calls Tryz.prog 51 #[.agg #[.string x.f0, .string x.f1, .slice A2 x.f2.length c2]] w fun e w' => e = .returned (.bool (attrB x)) ∧ Below w.heap.size w w' :=
  out_attribute.calls x.f0 x.f1 A2 c2 x.f2 (attrB x) w hr hc (out_attr_f x)
set_option maxHeartbeats 4000000 in
set_option maxRecDepth 100000 in
theorem not84 (x : S24) (A2 : Option Addr) (c2 : Nat) (w : World) (hr : k24.C w A2 x.f2.length x.f2) (hc : x.f2.length ≤ c2) :
    Calls Tryz.prog 84 #[.agg #[.string x.f0, .string x.f1, .slice A2 x.f2.length c2]] w fun e w' => e = .returned (.bool (!attrB x)) ∧ Below w.heap.size w w' := by
  have hu24 := Tryz.underlying24
  have HR := Lib.hid hr
  clear hr
  go_enter Tryz.func84, Tryz.ntmps84
  go_wp2_with fail
  refine (attr51 x A2 c2 _ (Kd.C_below HR.out (below_alloc (Below.refl _ _) _)) hc).mono ?_
  rintro e w1 ⟨rfl, hb1⟩
  have hB := (below_alloc (Below.refl w.heap.size w) _).trans (hb1.mono (by simp))
  clear hb1
  go_wp2_with fail
  go_ret
  exact ⟨rfl, hB⟩
set_option maxHeartbeats 4000000 in
set_option maxRecDepth 100000 in
theorem name87 (ga : Nat) (nm : ByteArray) (x : S24) (A2 : Option Addr) (c2 : Nat) (w : World) (hc : w.cell? ⟨ga, 0, none⟩ = some (.string nm)) :
    Calls Tryz.prog 87 #[.agg #[.string x.f0, .string x.f1, .slice A2 x.f2.length c2], .pointer (some ⟨ga, 0, none⟩)] w fun e w' => e = .returned (.bool (x.f0.toList == nm.toList)) ∧ Below w.heap.size w w' := by
  have hc' : (w.alloc (.cells #[.string x.f0, .string x.f1, .slice A2 x.f2.length c2] 24)).cell? ⟨ga, 0, none⟩ = some (.string nm) := cellBelow (below_alloc (Below.refl _ _) _) hc
  clear hc
  go_enter Tryz.func87, Tryz.ntmps87
  go_wp2
  go_ret
  exact ⟨rfl, below_alloc (Below.refl _ _) _⟩
set_option maxHeartbeats 4000000 in
set_option maxRecDepth 100000 in
theorem has51 (av : Value) (acc : List S24) (w : World) (A : Option Addr) (c : Nat) (hv : av = .slice A acc.length c) (hC : k24.C w A acc.length acc) (hl : acc.length ≤ 1048576) :
    Calls Tryz.prog 86 #[av, .func (.func 51) #[] #[]] w fun e w' => e = .returned (.bool (acc.any attrB)) ∧ Below w.heap.size w w' := by
  have H := idx51_any attrB av acc w A c hv hC hl (fun x A2 c2 wr _ _ h1 h2 => attr51 x A2 c2 wr h1 h2)
  have hz := firstI_any attrB acc 0
  generalize firstI attrB acc 0 = z at *
  subst hv
  clear hC
  go_enter Tryz.func86, Tryz.ntmps86
  go_wp2_with fail
  refine H.mono ?_
  rintro e w1 ⟨rfl, hb1⟩
  go_wp2_with fail
  go_ret
  exact ⟨rfl, hb1⟩
set_option maxHeartbeats 4000000 in
set_option maxRecDepth 100000 in
theorem has87 (ga : Nat) (nm : ByteArray) (av : Value) (acc : List S24) (w : World) (hc : w.cell? ⟨ga, 0, none⟩ = some (.string nm)) (A : Option Addr) (c : Nat) (hv : av = .slice A acc.length c) (hC : k24.C w A acc.length acc) (hl : acc.length ≤ 1048576) :
    Calls Tryz.prog 86 #[av, .func (.func 87) #[] #[.pointer (some ⟨ga, 0, none⟩)]] w fun e w' => e = .returned (.bool (acc.any fun x => x.f0.toList == nm.toList)) ∧ Below w.heap.size w w' := by
  have H := idx87_any (fun x => x.f0.toList == nm.toList) ga av acc w A c hv hC hl (fun x A2 c2 wr _ hB _ _ => name87 ga nm x A2 c2 wr (cellBelow hB hc))
  have hz := firstI_any (fun x => x.f0.toList == nm.toList) acc 0
  generalize firstI (fun x : S24 => x.f0.toList == nm.toList) acc 0 = z at *
  subst hv
  clear hC hc
  go_enter Tryz.func86, Tryz.ntmps86
  go_wp2_with fail
  refine H.mono ?_
  rintro e w1 ⟨rfl, hb1⟩
  go_wp2_with fail
  go_ret
  exact ⟨rfl, hb1⟩
end Go.Proofs.YtknfpggiigncpaaGreatDoor.E
end
section
set_option linter.unusedVariables false
set_option linter.unusedSimpArgs false
namespace Go.Proofs.YtknfpggiigncpaaGreatDoor.E
open Go.RowKit Go.Proofs.YtknfpggiigncpaaGreatDoor.P Go.Proofs.YtknfpggiigncpaaGreatDoorW.PrintLast Go.Proofs.YtknfpggiigncpaaGreatDoorW.PrintMore
open Go.Proofs.YtknfpggiigncpaaGreatDoorW.PrintWords

theorem C_take {α : Type} {d : Kd α} {w : World} {A : Option Addr} {n : Nat} {xs : List α} (h : d.C w A n xs) (k : Nat) (hk : k ≤ n) : d.C w A k (xs.take k) := by
  obtain ⟨h1, h2, h3⟩ := h
  refine ⟨by rw [List.length_take]; omega, by omega, fun hp => ?_⟩
  obtain ⟨ad, e, hc⟩ := h3 (by omega)
  refine ⟨ad, e, fun j p hj => hc j p ?_⟩
  rw [List.getElem?_take] at hj
  split at hj
  · exact hj
  · cases hj
theorem add_add (ad : Addr) (a b : Nat) : (ad.add a).add b = ad.add (a + b) := by
  unfold Addr.add
  by_cases h1 : a = 0
  · subst h1; simp
  · by_cases h2 : b = 0
    · subst h2; simp
    · rw [if_neg h1, if_neg h2, if_neg (by omega)]
      simp [Nat.add_assoc]
theorem C_drop {α : Type} {d : Kd α} {w : World} {ad : Addr} {n : Nat} {xs : List α} (h : d.C w (some ad) n xs) (k : Nat) (hk : k ≤ n) : d.C w (some (ad.add (k * d.sz))) (n - k) (xs.drop k) := by
  obtain ⟨h1, h2, h3⟩ := h
  refine ⟨by rw [List.length_drop]; omega, by omega, fun hp => ?_⟩
  obtain ⟨ad', e, hc⟩ := h3 (by omega)
  cases e
  refine ⟨_, rfl, fun j p hj => ?_⟩
  rw [List.getElem?_drop] at hj
  obtain ⟨c, q1, q2, q3⟩ := hc (k + j) p hj
  refine ⟨c, q1, q2, fun i u hu => ?_⟩
  rw [add_add, ← q3 i u hu]
  congr 2
  rw [Nat.add_mul, Nat.add_assoc]
theorem firstI_not (l : List S24) (i : Nat) : firstI (fun x => !attrB x) l i = if attN l < l.length then ((i + attN l : Nat) : Int) else -1 := by
  induction l generalizing i with
  | nil => rfl
  | cons x l ih =>
    unfold firstI
    cases h : attrB x with
    | false =>
      have e : attN (x :: l) = 0 := by unfold attN; rw [List.takeWhile_cons_of_neg (by simp [h])]; rfl
      rw [e, if_pos (by simp), if_pos (by simp)]; simp
    | true =>
      have e : attN (x :: l) = attN l + 1 := by unfold attN; rw [List.takeWhile_cons_of_pos h]; rfl
      rw [if_neg (by simp), ih, e, List.length_cons]
      by_cases g : attN l < l.length
      · rw [if_pos g, if_pos (by omega)]; simp; omega
      · rw [if_neg g, if_neg (by omega)]
end Go.Proofs.YtknfpggiigncpaaGreatDoor.E
end
