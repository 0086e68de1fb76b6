/- The document's Same, of any two trees: what it tells; trees of one text. Plain Lean. -/
import Derived.Test.YtknfpggiigncpaaGreatDoorBk1
import Derived.Test.YtknfpggiigncpaaGreatDoorEx2
set_option linter.unusedVariables false
set_option linter.unusedSimpArgs false
namespace Go.Proofs.YtknfpggiigncpaaGreatDoor.G
open Go.RowKit P E T
open B (Ev w_succ toL)
open YtknfpggiigncpaaGreatDoorW.PrintWords
theorem s24_ext {x y c d : ByteArray} {q r : List S24} : (⟨x, y, q⟩ : S24) = ⟨c, d, r⟩ ↔ x.data.toList = c.data.toList ∧ y.data.toList = d.data.toList ∧ q = r := by
 constructor
 ·
  intro h
  injection h with h1 h2 h3
  subst h1 h2 h3
  exact ⟨rfl, rfl, rfl⟩
 ·
  rintro ⟨h1, h2, rfl⟩
  rw [show x = c from B.ba_ext h1, show y = d from B.ba_ext h2]
theorem same_head {x y c d : ByteArray} {q r : List S24} (h : q.length = r.length → ∃ b : Bool, (b = true ↔ q = r) ∧ Ev (fun k => remitterref10_Same.l0 k 0 x y q c d r) b) :
  ∃ b : Bool, (b = true ↔ (⟨x, y, q⟩ : S24) = ⟨c, d, r⟩) ∧ Ev (fun k => remitterref10_Same.f k x y q c d r) b := by
 by_cases h1 : x.toList = c.toList
 ·
  by_cases h2 : y.toList = d.toList
  ·
   by_cases h3 : q.length = r.length
   ·
    obtain ⟨b, hb, K, hK⟩ := h h3
    refine ⟨b, ?_, K + 2, fun k hk => ?_⟩
    ·
     rw [hb, s24_ext, ← toL, ← toL, ← toL, ← toL]
     exact ⟨fun e => ⟨h1, h2, e⟩, fun e => e.2.2⟩
    ·
     obtain ⟨k, rfl⟩ : ∃ j, k = j + 2 := ⟨k - 2, by omega⟩
     have := hK k (by omega)
     dsimp only at this ⊢
     rw [remitterref10_Same.f, if_pos h1, if_pos h2, remitterref10_Same.j0, if_neg (by simp [h3])]
     exact this
   ·
    refine ⟨false, ⟨fun e => (by cases e), fun e => absurd (congrArg List.length (s24_ext.1 e).2.2) h3⟩, 2, fun k hk => ?_⟩
    obtain ⟨k, rfl⟩ : ∃ j, k = j + 2 := ⟨k - 2, by omega⟩
    dsimp only
    rw [remitterref10_Same.f, if_pos h1, if_pos h2, remitterref10_Same.j0, if_pos (by rw [bne_iff_ne]; omega)]
  ·
   refine ⟨false, ⟨fun e => (by cases e), fun e => absurd (by rw [toL, toL]; exact (s24_ext.1 e).2.1) h2⟩, 2, fun k hk => ?_⟩
   obtain ⟨k, rfl⟩ : ∃ j, k = j + 2 := ⟨k - 2, by omega⟩
   dsimp only
   rw [remitterref10_Same.f, if_pos h1, if_neg h2, remitterref10_Same.j0, if_pos rfl]
 ·
  refine ⟨false, ⟨fun e => (by cases e), fun e => absurd (by rw [toL, toL]; exact (s24_ext.1 e).1) h1⟩, 2, fun k hk => ?_⟩
  obtain ⟨k, rfl⟩ : ∃ j, k = j + 2 := ⟨k - 2, by omega⟩
  dsimp only
  rw [remitterref10_Same.f, if_neg h1, remitterref10_Same.j0, if_pos rfl]
theorem same_rows : ∀ (l m p p' : List S24) (a b c d : ByteArray), l.length = m.length → p.length = p'.length → cntL l ≤ 100000 → (p ++ l).length ≤ 100000 →
  ∃ r : Bool, (r = true ↔ l = m) ∧ Ev (fun k => remitterref10_Same.l0 k (p.length : Int) a b (p ++ l) c d (p' ++ m)) r
 | [], [], p, p', a, b, c, d, hl, hp, hn, hs => by
  refine ⟨true, ⟨fun _ => rfl, fun _ => rfl⟩, 1, fun k hk => ?_⟩
  obtain ⟨k, rfl⟩ : ∃ j, k = j + 1 := ⟨k - 1, by omega⟩
  dsimp only
  rw [remitterref10_Same.l0, if_neg (by simp)]
 | [], y :: m, _, _, _, _, _, _, hl, _, _, _ => by cases hl
 | x :: l, [], _, _, _, _, _, _, hl, _, _, _ => by cases hl
 | ⟨x, y, q⟩ :: l, ⟨x', y', q'⟩ :: m, p, p', a, b, c, d, hl, hp, hn, hs => by
  have hL : (p ++ (⟨x, y, q⟩ : S24) :: l).length = p.length + l.length + 1 := by simp; omega
  have hM : (p' ++ (⟨x', y', q'⟩ : S24) :: m).length = p.length + m.length + 1 := by simp; omega
  simp only [cntL] at hn
  simp only [List.length_cons] at hl
  obtain ⟨r1, hr1, K1, hK1⟩ := same_head (x := x) (y := y) (c := x') (d := y') (q := q) (r := q') (fun hq => same_rows q q' [] [] x y x' y' hq rfl (by omega) (by have := len_cnt q; simp; omega))
  have hrd1 : rd_T24 (p ++ (⟨x, y, q⟩ : S24) :: l) (p.length : Int) = ⟨x, y, q⟩ := rd_pre _ _ _
  have hrd2 : rd_T24 (p' ++ (⟨x', y', q'⟩ : S24) :: m) (p.length : Int) = ⟨x', y', q'⟩ := by rw [hp]; exact rd_pre _ _ _
  cases r1 with
  | false =>
   refine ⟨false, ⟨fun e => (by cases e), fun e => ?_⟩, K1 + 1, fun k hk => ?_⟩
   ·
    injection e with e1 e2
    exact hr1.2 e1
   ·
    obtain ⟨k, rfl⟩ : ∃ j, k = j + 1 := ⟨k - 1, by omega⟩
    have h1 := hK1 k (by omega)
    dsimp only at h1 ⊢
    rw [remitterref10_Same.l0, if_pos (by rw [hL]; omega), if_pos (by omega), if_pos (by rw [hM]; omega), hrd1, hrd2]
    dsimp only
    rw [h1, Option.bind_some, if_neg (by simp)]
  | true =>
   obtain ⟨r2, hr2, K2, hK2⟩ := same_rows l m (p ++ [⟨x, y, q⟩]) (p' ++ [⟨x', y', q'⟩]) a b c d (by omega) (by simp; omega) (by omega) (by rw [List.append_assoc]; exact hs)
   refine ⟨r2, ?_, K1 + K2 + 1, fun k hk => ?_⟩
   ·
    rw [hr2]
    have e0 := hr1.1 rfl
    constructor
    ·
     intro e
     rw [e0, e]
    ·
     intro e
     injection e
   ·
    obtain ⟨k, rfl⟩ : ∃ j, k = j + 1 := ⟨k - 1, by omega⟩
    have h1 := hK1 k (by omega)
    have h3 := hK2 k (by omega)
    simp only [List.append_assoc, List.singleton_append, List.length_append, List.length_singleton] at h3
    dsimp only at h1 ⊢
    rw [remitterref10_Same.l0, if_pos (by rw [hL]; omega), if_pos (by omega), if_pos (by rw [hM]; omega), hrd1, hrd2]
    dsimp only
    rw [h1, Option.bind_some, if_pos rfl, w_succ p.length (by omega)]
    exact h3
termination_by l => SizeOf.sizeOf l
theorem same_two (v w : S24) (hv : cntL v.f2 ≤ 1000) : ∃ b : Bool, (b = true ↔ v = w) ∧ Ev (fun k => remitterref10_Same.f k v.f0 v.f1 v.f2 w.f0 w.f1 w.f2) b := by
 obtain ⟨x, y, q⟩ := v
 obtain ⟨c, d, r⟩ := w
 exact same_head fun h => same_rows q r [] [] x y c d h rfl (by simp only at hv; omega) (by have := len_cnt q; simp only at hv; simp; omega)
theorem write_inj {sp sp' : ByteArray} {v w : S24} (hv : cntL v.f2 ≤ 1000) (hw : cntL w.f2 ≤ 1000) (h1 : (writeT sp v).2 = 0) (h2 : (writeT sp' w).2 = 0) : (writeT sp v).1 = (writeT sp' w).1 ↔ sp = sp' ∧ v = w := by
 constructor
 ·
  intro e
  have p1 := write_parse sp v hv h1
  have p2 := write_parse sp' w hw h2
  rw [e, p2] at p1
  injection p1 with e1 e2
  exact ⟨e1.symm, e2.symm⟩
 ·
  rintro ⟨rfl, rfl⟩
  rfl
theorem write_err (sp : ByteArray) (v : S24) : (writeT sp v).2 = 0 ∨ (writeT sp v = (⟨#[]⟩, 1) ∨ writeT sp v = (⟨#[]⟩, 3)) := by
 unfold writeT
 split
 ·
  exact .inr (.inl rfl)
 ·
  split
  ·
   exact .inr (.inr rfl)
  ·
   exact .inl rfl
theorem row_pair (w : World) (g : Nat) (t : TypeId) (x y : S24) (A A' : Option Addr) (c c' : Nat) (hl : x.f2.length ≤ c) (hC : k24.C w A x.f2.length x.f2) (hl' : y.f2.length ≤ c') (hC' : k24.C w A' y.f2.length y.f2)
  (hg : w.heap[g]? = some (.cells #[.string x.f0, .string x.f1, .slice A x.f2.length c, .string y.f0, .string y.f1, .slice A' y.f2.length c'] t (0, 0))) :
  k24.C w (some ⟨g, 0, none⟩) 2 [x, y] := by
 have hc : ∀ i, w.cell? ⟨g, i, none⟩ = (#[.string x.f0, .string x.f1, .slice A x.f2.length c, .string y.f0, .string y.f1, .slice A' y.f2.length c'] : Array Value)[i]? := fun i => cell_of_row _ _ _ _ _ _ hg
 refine ⟨rfl, by omega, fun _ => ⟨_, rfl, fun j p hj => ?_⟩⟩
 match j, hj with
 | 0, hj =>
  obtain rfl : x = p := Option.some.inj hj
  refine ⟨[.string x.f0, .string x.f1, .slice A x.f2.length c], rfl, k24_mk w x hl hC, fun i u hu => ?_⟩
  rw [show (0 * k24.sz + i) = i by omega]
  match i, hu with
  | 0, hu => cases hu; exact hc 0
  | 1, hu => cases hu; exact hc 1
  | 2, hu => cases hu; exact hc 2
 | 1, hj =>
  obtain rfl : y = p := Option.some.inj hj
  refine ⟨[.string y.f0, .string y.f1, .slice A' y.f2.length c'], rfl, k24_mk w y hl' hC', fun i u hu => ?_⟩
  rw [show (1 * k24.sz + i) = 3 + i by show 1 * 3 + i = 3 + i; omega]
  match i, hu with
  | 0, hu => cases hu; exact hc 3
  | 1, hu => cases hu; exact hc 4
  | 2, hu => cases hu; exact hc 5
end Go.Proofs.YtknfpggiigncpaaGreatDoor.G
