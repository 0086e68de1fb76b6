/- mtspec.Kind: a range over a map, walked by hand; and Table, Number, Kind as the print asks for them. -/
import Derived.Maps.StringElems
import Derived.Maps.RangeWalk
import Derived.Test.YtepphihcggppbaaDoorMt2
set_option linter.unusedVariables false
set_option linter.unusedSimpArgs false
namespace Go.Proofs.YtepphihcggppbaaDoor.A
open Go.RowKit Go.Proofs.MapLit Go.Proofs.YtepphihcggppbaaDoorW.PrintWords Go.Proofs.YtepphihcggppbaaDoorW.PrintLast Go.Proofs.YtepphihcggppbaaDoorW.PrintMore
open Go.Maps

theorem K5 : Keyed Tryd.prog 5 := Maps.int_keyed Tryd.underlying5
def wD : List (Int × ByteArray) → DataW Unit := fun l => l.foldl (fun D x => D.put (.int .u8 x.1) (.lit (.string x.2.data.toList))) (.map [])
def wl4 : List (Int × ByteArray) := [(1, wordB 1), (2, wordB 2), (3, wordB 3), (4, wordB 4)]
def D4 : DataW Unit := wD wl4
def valL (l : List (Int × ByteArray)) : List (Int × Value) := l.map fun x => (x.1, .string x.2)
theorem wD_snoc (l : List (Int × ByteArray)) (x : Int × ByteArray) : wD (l ++ [x]) = (wD l).put (.int .u8 x.1) (.lit (.string x.2.data.toList)) := by simp [wD, List.foldl_append]
theorem own_step (w : World) (l : List (Int × ByteArray)) (k : Int) (s : ByteArray) (h : (mapW (Value.int .u8) w (valL l)).ownsMap Tryd.prog 5 (plainElem (H := Unit) Tryd.prog 9) w.heap.size l.length (wD l)) (hl : l.length ≤ 100) (hk : (Lit.int .u8 k).wf = true) (hs : s.size ≤ maxLen) (hn : ∀ x ∈ valL l, x.1 ≠ k) :
    (mapW (Value.int .u8) w (valL (l ++ [(k, s)]))).ownsMap Tryd.prog 5 (plainElem (H := Unit) Tryd.prog 9) w.heap.size (l ++ [(k, s)]).length (wD (l ++ [(k, s)])) := by
  obtain ⟨w', h1, h2, h3⟩ := h.update K5 Tryd.underlying45 (by unfold maxLen; omega) (Maps.keyOf_int_mk Tryd.underlying5 hk) (plainElem_string Tryd.underlying9 hs)
  have h4 := run_insertW (keyAs_int .u8) Tryd.underlying45 Tryd.underlying5 k (.string s) (valL l) hn w
  rw [h1] at h4
  have h5 : w' = mapW (Value.int .u8) w (valL l ++ [(k, .string s)]) := by injection h4
  subst h5
  rw [wD_snoc, List.length_append]
  have : valL (l ++ [(k, s)]) = valL l ++ [(k, .string s)] := by simp [valL]
  rw [this]
  exact h2
theorem words_own (w : World) : (mapW (Value.int .u8) w wordsL).ownsMap Tryd.prog 5 (plainElem (H := Unit) Tryd.prog 9) w.heap.size 4 D4 := by
  have h0 : (mapW (Value.int .u8) w (valL [])).ownsMap Tryd.prog 5 (plainElem (H := Unit) Tryd.prog 9) w.heap.size 0 (wD []) := World.ownsMap_made w Tryd.prog 5 _
  have h1 := own_step w [] 1 (wordB 1) h0 (by decide) (by decide) (Nat.le_of_ble_eq_true (by kernel_rfl)) (by intro x hx; cases hx)
  have h2 := own_step w _ 2 (wordB 2) h1 (by decide) (by decide) (Nat.le_of_ble_eq_true (by kernel_rfl)) (by intro x hx; simp [valL] at hx; rcases hx with rfl; decide)
  have h3 := own_step w _ 3 (wordB 3) h2 (by decide) (by decide) (Nat.le_of_ble_eq_true (by kernel_rfl)) (by intro x hx; simp [valL] at hx; rcases hx with rfl | rfl <;> decide)
  have h4 := own_step w _ 4 (wordB 4) h3 (by decide) (by decide) (Nat.le_of_ble_eq_true (by kernel_rfl)) (by intro x hx; simp [valL] at hx; rcases hx with rfl | rfl | rfl <;> decide)
  exact h4
theorem has4 (x : Int) (h : Maps.has D4 (.int .u8 x) = true) : x = 1 ∨ x = 2 ∨ x = 3 ∨ x = 4 := by
  have e4 : D4 = (wD [(1, wordB 1), (2, wordB 2), (3, wordB 3)]).put (.int .u8 4) (.lit (.string (wordB 4).data.toList)) := rfl
  have e3 : wD [(1, wordB 1), (2, wordB 2), (3, wordB 3)] = (wD [(1, wordB 1), (2, wordB 2)]).put (.int .u8 3) (.lit (.string (wordB 3).data.toList)) := rfl
  have e2 : wD [(1, wordB 1), (2, wordB 2)] = (wD [(1, wordB 1)]).put (.int .u8 2) (.lit (.string (wordB 2).data.toList)) := rfl
  have e1 : wD [(1, wordB 1)] = (wD []).put (.int .u8 1) (.lit (.string (wordB 1).data.toList)) := rfl
  by_cases h4 : x = 4
  · exact .inr (.inr (.inr h4))
  rw [e4, Maps.has_put_other (fun e => h4 (by injection e))] at h
  by_cases h3 : x = 3
  · exact .inr (.inr (.inl h3))
  rw [e3, Maps.has_put_other (fun e => h3 (by injection e))] at h
  by_cases h2 : x = 2
  · exact .inr (.inl h2)
  rw [e2, Maps.has_put_other (fun e => h2 (by injection e))] at h
  by_cases h1 : x = 1
  · exact .inl h1
  rw [e1, Maps.has_put_other (fun e => h1 (by injection e))] at h
  cases h
theorem has4' (x : Int) (h : x = 1 ∨ x = 2 ∨ x = 3 ∨ x = 4) : Maps.has D4 (.int .u8 x) = true := by rcases h with rfl | rfl | rfl | rfl <;> kernel_rfl
/-- The kind of digits. -/
def kindT (n : ByteArray) : Int × Bool := if n = numB 1 then (1, true) else if n = numB 2 then (2, true) else if n = numB 3 then (3, true) else if n = numB 4 then (4, true) else (0, false)
theorem kindT_hit (x : Int) (h : x = 1 ∨ x = 2 ∨ x = 3 ∨ x = 4) : kindT (numB x) = (x, true) := by rcases h with rfl | rfl | rfl | rfl <;> decide
theorem kindT_miss (n : ByteArray) (h : ∀ x, (x = 1 ∨ x = 2 ∨ x = 3 ∨ x = 4) → numB x ≠ n) : kindT n = (0, false) := by
  unfold kindT
  rw [if_neg (fun e => h 1 (by simp) e.symm), if_neg (fun e => h 2 (by simp) e.symm), if_neg (fun e => h 3 (by simp) e.symm), if_neg (fun e => h 4 (by simp) e.symm)]
set_option maxRecDepth 100000 in
set_option maxHeartbeats 4000000 in
theorem kind_any (n : ByteArray) (w : World) : Calls Tryd.prog 30 #[.string n] w fun e w' => e = .returned (.tuple #[.int .u8 (kindT n).1, .bool (kindT n).2]) ∧ Below w.heap.size w w' := by
  go_enter Tryd.func30, Tryd.ntmps30
  go_wp2_with fail
  refine (words_any w).mono ?_
  rintro e w1 ⟨rfl, rfl⟩
  have hown := words_own w
  have hB1 := mapW_below (enc := Value.int .u8) (Below.refl _ w) (Nat.le_refl _) wordsL
  have hsz : (mapW (Value.int .u8) w wordsL).heap.size = w.heap.size + 1 := mapW_size _ _
  generalize mapW (Value.int .u8) w wordsL = w1 at hown hB1 hsz ⊢
  go_wp2_with (at_range; refine wpList_range_own _ rfl _ 45 rfl 5 9 K5 Tryd.underlying45 _ w.heap.size 4 D4 rfl hown ?_; intro w2 hrg hg2 hs2)
  have HB2 := Lib.hid (show Below w.heap.size w w2 from hB1.grown hg2 (by omega) (fun k e => by cases e))
  have HRG := Lib.hid hrg
  have HSZ := Lib.hid hsz
  clear hrg hg2 hown hB1 hsz hs2
  go_frame
  go_loopg [4] 5 (fun kq v4 wr => ∃ (left : Lit → Bool) (cnt : Nat), Aside0 (kq = cnt + 1) ∧ Hid (wr.ranges Tryd.prog 5 (plainElem (H := Unit) Tryd.prog 9) w.heap.size w1.heap.size 4 D4 left cnt) ∧ Hid (∀ x, left (.int .u8 x) = true → Maps.has D4 (.int .u8 x) = true) ∧ Hid (∀ x, Maps.has D4 (.int .u8 x) = true → left (.int .u8 x) = false → numB x ≠ n) ∧ Hid (Below w.heap.size w wr))
  case atStart => exact ⟨_, _, ⟨by decide⟩, HRG, Lib.hid (fun x h => h), Lib.hid (fun x h1 h2 => by rw [h1] at h2; cases h2), HB2⟩
  case round =>
    obtain ⟨left, cnt, HKQ, HR, HL1, HL2, HBr⟩ := hrel
    have hrg := HR.out
    go_wp2_with (at_next; refine wpList_next_ranges_is _ rfl _ rfl 5 9 .u8 K5 Tryd.underlying5 Tryd.underlying9 w.heap.size w1.heap.size 4 D4 left cnt rfl hrg ?_ ?_)
    · intro _ hl0
      clear hrg
      go_wp2_with fail
      go_ret2
      exact ⟨by rw [kindT_miss n (fun x hx => HL2.out x (has4' x hx) (hl0 _))]; rfl, HBr.out⟩
    · intro x c w3 cnt' hwx hcs hlx hat hrg1 hlt hg3 hs3 hen
      have HB3 := Lib.hid (HBr.out.grown hg3 HBr.out.size (fun k e => by cases e; have := HSZ.out; omega))
      have HR3 := Lib.hid hrg1
      have hx4 := has4 x (HL1.out x hlx)
      have HLX := Lib.hid hlx
      have HLT := Lib.hid hlt
      have HX4 := Lib.hid hx4
      clear hrg hat hrg1 hlt hg3 hs3 hx4 hlx hcs
      go_wp2_with fail
      refine (number_any x w3).mono ?_
      rintro e w4 ⟨rfl, hb4⟩
      have HB4 := Lib.hid (HB3.out.trans (hb4.mono HB3.out.size))
      by_cases hn : numB x = n
      · have hnb : ((numB x).toList == n.toList) = true := by rw [hn]; simp
        go_wp2_with fail
        go_ret2
        refine ⟨?_, HB4.out⟩
        rw [← hn, kindT_hit x HX4.out]
        rfl
      · have hnb : ((numB x).toList == n.toList) = false := by
          rw [Lib.toList_data, Lib.toList_data]
          refine beq_eq_false_iff_ne.2 (fun e => hn (ByteArray.ext (Array.ext' e)))
        have HR4 := Lib.hid (show w4.ranges Tryd.prog 5 (plainElem (H := Unit) Tryd.prog 9) w.heap.size w1.heap.size 4 D4 (fun z => left z && !z.sameKey (.int .u8 x)) cnt' from by
          obtain ⟨es, clock, since, seen, c0, a1, a2, a3, a4, a5, a6⟩ := HR3.out
          exact ⟨es, clock, since, seen, c0, (hb4.block _ (tlt a1)).trans a1, a2, a3, a4, (hb4.block _ (tlt a5)).trans a5, a6⟩)
        clear hb4
        go_wp2_with fail
        go_roundg (cnt' + 1)
        case measure => have := HKQ.out; have := HLT.out; omega
        case rel =>
          refine ⟨_, cnt', ⟨rfl⟩, HR4, Lib.hid (fun y hy => ?_), Lib.hid (fun y h1 h2 => ?_), HB4⟩
          · rw [Bool.and_eq_true] at hy
            exact HL1.out y hy.1
          · by_cases hyx : y = x
            · subst hyx; exact hn
            · refine HL2.out y h1 ?_
              cases hly : left (.int .u8 y) with
              | false => rfl
              | true =>
                rw [hly, Bool.true_and, Bool.not_eq_false'] at h2
                exact absurd (by simpa [Lit.sameKey] using h2) hyx
end Go.Proofs.YtepphihcggppbaaDoor.A
