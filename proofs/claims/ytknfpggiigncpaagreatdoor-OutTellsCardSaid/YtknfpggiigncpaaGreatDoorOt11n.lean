/- out.one over no parts, walked by hand; the three together. -/
import Derived.Test.YtknfpggiigncpaaGreatDoorOt11
set_option linter.unusedVariables false
set_option linter.unusedSimpArgs false
namespace Go.Proofs.YtknfpggiigncpaaGreatDoor.E
open Go.RowKit Go.Proofs.YtknfpggiigncpaaGreatDoor.P Go.Proofs.YtknfpggiigncpaaGreatDoorW.PrintLast Go.Proofs.YtknfpggiigncpaaGreatDoorW.PrintMore
open Go.Proofs.YtknfpggiigncpaaGreatDoorW.PrintWords

set_option maxHeartbeats 8000000 in
set_option maxRecDepth 100000 in
theorem one_nil (v : S24) (hv : v.f2 = []) (c : Nat) (w : World) (hG : Glob w) (hs : sized v) :
    Calls Tryz.prog 53 #[.agg #[.string v.f0, .string v.f1, .slice none v.f2.length c]] w fun e w' => e = .returned (.bool (oneT v)) ∧ Below w.heap.size w w' := by
  have hu24 := Tryz.underlying24
  obtain ⟨a, b, l⟩ := v
  simp only at hv
  subst hv
  have HG := Lib.hid hG
  clear hG
  simp only [List.length_nil]
  go_enter Tryz.func53, Tryz.ntmps53
  go_wp2_with fail
  refine (idx84_any (fun x => !attrB x) _ [] _ none c rfl (C_nil _ _ _) (by simp) (fun x A2 c2 wr _ _ h1 h2 => not84 x A2 c2 wr h1 h2)).mono ?_
  rintro e w1 ⟨rfl, hb1⟩
  rw [show firstI (fun x => !attrB x) [] 0 = -1 from rfl]
  have HX := Lib.hid ((Bx.mk (v := ⟨a, b, []⟩) (A := none) (c := c) (C_nil _ _ _) HG.out).step hb1)
  clear hb1
  obtain ⟨x0, x1, x2, _, _, _⟩ := HX.out
  simp only [List.length_nil] at x0 x1 x2
  go_wp2_with fail
  cases hn : nameB a.data.toList with
  | false =>
    refine (out_name.calls a w1 (by have := hs.1; simp only at this; omega)).mono ?_
    rintro e w2 ⟨rfl, hb2⟩
    rw [hn]
    have HX2 := Lib.hid (HX.out.step hb2)
    go_wp2_with fail
    go_ret
    exact ⟨by simp [oneT, hn], HX2.out.2.2.2.1⟩
  | true =>
    refine (out_name.calls a w1 (by have := hs.1; simp only at this; omega)).mono ?_
    rintro e w2 ⟨rfl, hb2⟩
    rw [hn]
    have HX2 := Lib.hid (HX.out.step hb2)
    clear hb2 x0 x1 x2
    obtain ⟨x0, x1, x2, _, _, g2⟩ := HX2.out
    simp only [List.length_nil] at x0 x1 x2
    go_wp2_with fail
    refine (good46 b _ hs.2.1 g2).mono ?_
    rintro e w3 ⟨rfl, hb3⟩
    have HX3 := Lib.hid (HX2.out.step hb3)
    clear hb3 x0 x1 x2
    obtain ⟨x0, x1, x2, _, c3, g3⟩ := HX3.out
    simp only [List.length_nil] at x0 x1 x2
    cases hgd : goodB b.data.toList with
    | false =>
      go_wp2_with fail
      go_ret
      exact ⟨by simp [oneT, hgd], HX3.out.2.2.2.1⟩
    | true =>
      go_wp2_with fail
      refine (has51 _ [] w3 none c rfl (C_nil _ _ _) (by simp)).mono ?_
      rintro e w4 ⟨rfl, hb4⟩
      have HX4 := Lib.hid (HX3.out.step hb4)
      clear hb4 x0 x1 x2 c3
      obtain ⟨x0, x1, x2, _, c4, g4⟩ := HX4.out
      simp only [List.length_nil] at x0 x1 x2
      go_wp2_with fail
      go_loopg [52] 1 (fun kq v52 wr => v52 = .int .i64 0 ∧ Hid (Below w.heap.size w wr))
      case atStart => exact ⟨rfl, HX4.out.2.2.2.1⟩
      case round =>
        obtain ⟨rfl, HB⟩ := hrel
        go_wp2_with fail
        go_ret
        exact ⟨by simp [oneT, hn, hgd, attN, attrsOk], HB.out⟩
theorem att_le (l : List S24) : attN l ≤ l.length := by
  have := congrArg List.length (take_att l)
  unfold attN
  have h2 : (l.takeWhile attrB).length ≤ l.length := (List.takeWhile_sublist attrB).length_le
  exact h2
/-- out.one: whether an element may be, but for its elements. -/
theorem one_any (v : S24) (A : Option Addr) (c : Nat) (w : World) (hr : k24.C w A v.f2.length v.f2) (hc : v.f2.length ≤ c) (hG : Glob w) (hs : sized v) (hk : ∀ k ∈ v.f2, sized k) :
    Calls Tryz.prog 53 #[.agg #[.string v.f0, .string v.f1, .slice A v.f2.length c]] w fun e w' => e = .returned (.bool (oneT v)) ∧ Below w.heap.size w w' := by
  by_cases g : attN v.f2 < v.f2.length
  · exact one_lt v A c w hr hc hG hs hk g
  have g' : attN v.f2 = v.f2.length := by have := att_le v.f2; omega
  cases A with
  | none =>
    refine one_nil v ?_ c w hG hs
    obtain ⟨_, _, q⟩ := hr
    cases hl : v.f2 with
    | nil => rfl
    | cons x y => obtain ⟨ad, e, _⟩ := q (by rw [hl]; simp); cases e
  | some ad =>
    by_cases h : c = v.f2.length
    · subst h; exact one_ge2 v ad w hr hG hs hk g'
    · exact one_ge1 v ad c w hr (by omega) hG hs hk g'
end Go.Proofs.YtknfpggiigncpaaGreatDoor.E
