/- token's reader: its block, what it throws; fail, rest, must, until, blanks, plain: their contracts. -/
import Derived.Test.YtknfpggiigncpaaGreatDoorXUnesc
import Derived.Test.YtknfpggiigncpaaGreatDoorCx0
import Derived.Lib.Bytes2
import Derived.Tactics
import Derived.Tactics2
import Derived.Deep.QuietTactic
import Derived.BigQuiet
import Derived.WalkLawsBesides
set_option maxHeartbeats 4000000
set_option maxRecDepth 100000
set_option linter.unusedVariables false
set_option linter.unusedSimpArgs false
namespace Go.Proofs.YtknfpggiigncpaaGreatDoor.C
open Go.RowKit P A YtknfpggiigncpaaGreatDoorW.PrintWords YtknfpggiigncpaaGreatDoorW.PrintLast YtknfpggiigncpaaGreatDoorW.PrintMore
def Rd (g : Nat) (s : ByteArray) (p : Nat) (ov : Value) (w : World) : Prop := w.heap[g]? = some (.cells #[.string s, .int .i64 p, ov] 83 (0, 0))
theorem Rd.at_ {g : Nat} {s : ByteArray} {p : Nat} {ov : Value} {w : World} (h : Rd g s p ov w) (i : Nat) : w.cell? ⟨g, i, none⟩ = #[.string s, .int .i64 p, ov][i]? := cell_of_row _ _ _ _ _ _ h
theorem Rd.free {g : Nat} {s : ByteArray} {p : Nat} {ov : Value} {w : World} (h : Rd g s p ov w) (i : Nat) : w.frozen? ⟨g, i, none⟩ = false := frozen_of_row _ _ _ _ _ h
theorem Rd.put {g : Nat} {s : ByteArray} {p : Nat} {ov : Value} {w : World} (h : Rd g s p ov w) (q : Nat) : Rd g s q ov (w.setCell ⟨g, 1, none⟩ (.int .i64 q)) := heap_setCell_same _ _ _ _ _ _ h
theorem Rd.lt {g : Nat} {s : ByteArray} {p : Nat} {ov : Value} {w : World} (h : Rd g s p ov w) : g < w.heap.size := (Array.getElem?_eq_some_iff.1 h).1
theorem Rd.drewN {g : Nat} {s : ByteArray} {p : Nat} {ov : Value} {w : World} (h : Rd g s p ov w) (n : Nat) : Rd g s p ov (w.drewN n) := h
theorem Rd.below {g : Nat} {s : ByteArray} {p : Nat} {ov : Value} {w w1 : World} (h : Rd g s p ov w) (hb : Below w.heap.size w w1) : Rd g s p ov w1 := (hb.block g h.lt).trans h
def Ch (g : Nat) (w w' : World) : Prop := Below g w w' ∧ KeepBut w w' g none
theorem Ch.refl (g : Nat) (w : World) : Ch g w w := ⟨Below.refl _ _, KeepBut.refl _ _ _⟩
theorem Ch.trans {g : Nat} {a b c : World} (h : Ch g a b) (k : Ch g b c) : Ch g a c := ⟨h.1.trans k.1, h.2.trans k.2 (.inl rfl)⟩
theorem Ch.of_below {g : Nat} {w w1 : World} (h : Below w.heap.size w w1) (hg : g ≤ w.heap.size) : Ch g w w1 := ⟨h.mono hg, KeepBut.of_below h _ _⟩
theorem Ch.drewN {g : Nat} {w w1 : World} (h : Ch g w w1) (n : Nat) : Ch g w (w1.drewN n) := ⟨pw_below_drewN h.1 n, keep_drewN h.2 n⟩
theorem Ch.set {g : Nat} {w w1 : World} (h : Ch g w w1) (j : Nat) (u : Value) : Ch g w (w1.setCell ⟨g, j, none⟩ u) := ⟨h.1.setCell (p := ⟨g, j, none⟩) (Nat.le_refl _) _, h.2.set_ j u⟩
def wrongV (a : Nat) (er : Int) : Value := .iface 79 (.agg #[.int .i64 a, .int .i64 er])
def Thrown (e : Ending) (a : Nat) (er : Int) : Prop := e = .panicked [{ v := wrongV a er, recovered := false }]
theorem fail_any (p : Nat) (w : World) : Calls Tryz.prog 90 #[.int .i64 p] w fun e w' => Thrown e p 21 ∧ w = w' := by
 go_enter Tryz.func90, Tryz.ntmps90
 go_wp2
 exact ⟨rfl, rfl, rfl⟩
theorem rest_any (g : Nat) (s : ByteArray) (p : Nat) (ov : Value) (w : World) (h : Rd g s p ov w) (hp : p ≤ s.size) (hs : s.size ≤ 1048576) :
  Calls Tryz.prog 94 #[.pointer (some ⟨g, 0, none⟩)] w fun e w' => e = .returned (.string (s.extract p s.size)) ∧ ∃ n, w' = w.drewN n := by
 have c0 := h.at_ 0
 have c1 := h.at_ 1
 have hsl : ∀ w : World, (Instr.slice 9 (.string s) (some (.int .i64 p)) none none).run Tryz.prog w = .ok (.string (s.extract p s.size)) w := fun w => by
  have h1 : (0 : Int) ≤ p ∧ (p : Int) ≤ s.size := by omega
  rw [run_slice_string_from_if (P := Tryz.prog) _ 9 s .i64 (p : Int) Tryz.underlying9]
  simp [h1.2]
 clear h
 simp at c0 c1
 go_enter Tryz.func94, Tryz.ntmps94
 go_wp2
 go_quiet (fail)
 go_wp2
 go_ret
 exact ⟨rfl, _, rfl⟩
theorem un_place : ∀ (n : Nat) (l : List UInt8) (pos : Nat) (out : List UInt8), l.length ≤ n → (un l pos out).2.1 ≤ pos + l.length
 | _, [], pos, out, _ => by simp [un_nil]
 | 0, b :: r, _, _, h => by simp at h
 | n + 1, b :: r, pos, out, h => by
  simp only [List.length_cons] at h ⊢
  by_cases hb : b = 38
  ·
   subst hb
   cases hs : semi (r.take 13) with
   | none => rw [un_bad _ _ _ (by rw [hs]; rfl)]; simp
   | some i =>
    cases hr : refV i with
    | none => rw [un_bad _ _ _ (by rw [hs]; exact hr)]; simp
    | some c =>
     rw [un_ref _ _ _ _ _ hs hr]
     have := un_place n (r.drop (i.length + 1)) (pos + i.length + 2) (out ++ Lib.encodeRune (c : Int)) (by simp; omega)
     have hil := semi_len _ _ hs
     rw [List.length_take] at hil
     rw [List.length_drop] at this
     omega
  ·
   rw [un_plain _ _ _ _ hb]
   have := un_place n r (pos + 1) (out ++ [b]) (by omega)
   omega
def Gl (g : Nat) (w : World) : Prop := ∃ w0, Glob w0 ∧ w0.heap.size ≤ g ∧ Below w0.heap.size w0 w
theorem Gl.glob {g : Nat} {w : World} (h : Gl g w) : Glob w := by
 obtain ⟨w0, h0, _, h2⟩ := h
 exact h0.below h2
theorem Gl.ch {g : Nat} {w w1 : World} (h : Gl g w) (hb : Below g w w1) : Gl g w1 := by
 obtain ⟨w0, h0, h1, h2⟩ := h
 exact ⟨w0, h0, h1, h2.trans (hb.mono h1)⟩
theorem Gl.below {g : Nat} {w w1 : World} (h : Gl g w) (hb : Below w.heap.size w w1) : Gl g w1 := by
 obtain ⟨w0, h0, h1, h2⟩ := h
 exact ⟨w0, h0, h1, h2.trans (hb.mono h2.size)⟩
def Res (g : Nat) (s : ByteArray) (ov : Value) (w : World) (r : Except (Nat × Int) (Value × Nat)) (e : Ending) (w' : World) : Prop :=
 match r with
 | .ok (v, q) => e = .returned v ∧ Rd g s q ov w' ∧ Ch g w w'
 | .error (a, er) => Thrown e a er ∧ Below g w w'
theorem Res.ok {g : Nat} {s : ByteArray} {ov : Value} {w : World} {v : Value} {q : Nat} {e : Ending} {w' : World} (h : Res g s ov w (.ok (v, q)) e w') : e = .returned v ∧ Rd g s q ov w' ∧ Ch g w w' := h
theorem Res.error {g : Nat} {s : ByteArray} {ov : Value} {w : World} {a : Nat} {er : Int} {e : Ending} {w' : World} (h : Res g s ov w (.error (a, er)) e w') : e = .panicked [{ v := wrongV a er, recovered := false }] ∧ Below g w w' := h
def rs (s : ByteArray) (p : Nat) : List UInt8 := s.data.toList.drop p
theorem rs_ext (s : ByteArray) (p : Nat) : (s.extract p s.size).data.toList = rs s p := Lib.extract_to_end s p
theorem rs_len (s : ByteArray) (p : Nat) : (rs s p).length = s.size - p := by
 unfold rs
 rw [List.length_drop, ← Lib.size_eq]
theorem hasPrefix_f (a b : ByteArray) : strings_HasPrefix.f a b = some (Lib.hasPrefix a.data.toList b.data.toList) := by
 unfold strings_HasPrefix.f stringslite_HasPrefix.f
 rw [← Lib.hasPrefix_raw]
 by_cases h : b.size ≤ a.size
 ·
  rw [if_pos (by omega), if_pos (by omega), if_pos (by omega), decide_eq_true h]
  simp
 ·
  rw [if_neg (by omega), decide_eq_false h]
  simp
theorem hasPrefix_any (a b : ByteArray) (r : Bool) (hr : Lib.hasPrefix a.data.toList b.data.toList = r) (w : World) : Calls Tryz.prog 80 #[.string a, .string b] w fun e w' => e = .returned (.bool r) ∧ ∃ n, w' = w.drewN n := by
 refine (strings_HasPrefix.calls a b r w (by rw [hasPrefix_f, hr])).mono ?_
 rintro e w' ⟨he, hd⟩
 exact ⟨he, hd.out⟩
def mustT (s : ByteArray) (p : Nat) (t : List UInt8) : Except (Nat × Int) Nat := if Lib.hasPrefix (rs s p) t = true then .ok (p + t.length) else .error (p, 21)
def mustR (s : ByteArray) (p : Nat) (t : List UInt8) : Except (Nat × Int) (Value × Nat) := (mustT s p t).map fun q => (.tuple #[], q)
theorem must_any (g : Nat) (s : ByteArray) (p : Nat) (ov : Value) (t : ByteArray) (w : World) (h : Rd g s p ov w) (hp : p ≤ s.size) (hs : s.size ≤ 1048576) :
  Calls Tryz.prog 129 #[.pointer (some ⟨g, 0, none⟩), .string t] w (Res g s ov w (mustR s p t.data.toList)) := by
 have hlt := h.lt
 have H := Lib.hid h
 cases hr : Lib.hasPrefix (rs s p) t.data.toList with
 | false =>
  have hm : mustR s p t.data.toList = .error (p, 21) := by
   unfold mustR mustT
   rw [if_neg (by rw [hr]; simp)]
   rfl
  rw [hm]
  clear hm
  have hp2 := hasPrefix_any (s.extract p s.size) t false (by rw [rs_ext]; exact hr)
  have c1 := h.at_ 1
  simp at c1
  clear h hr
  go_enter Tryz.func129, Tryz.ntmps129
  go_wp2_with fail
  refine (rest_any g s p ov _ H.out hp hs).mono ?_
  rintro e w1 ⟨rfl, n1, rfl⟩
  go_wp2_with fail
  refine (hp2 _).mono ?_
  rintro e w1 ⟨rfl, n2, rfl⟩
  go_wp2_with fail
  refine (fail_any p _).mono ?_
  rintro e w1 ⟨he, rfl⟩
  obtain rfl : e = _ := he
  go_wp2_with fail
  exact ⟨rfl, rfl, pw_below_drewN (Below.refl _ _) _⟩
 | true =>
  have hm : mustR s p t.data.toList = .ok (.tuple #[], p + t.size) := by
   unfold mustR mustT
   rw [if_pos hr, ← Lib.size_eq]
   rfl
  rw [hm]
  clear hm
  have hp2 := hasPrefix_any (s.extract p s.size) t true (by rw [rs_ext]; exact hr)
  have htl : t.size ≤ s.size - p := by
   have := Lib.hasPrefix_le hr
   rw [rs_len, ← Lib.size_eq] at this
   exact this
  have c1 := h.at_ 1
  have f1 := h.free 1
  simp at c1
  clear h hr
  go_enter Tryz.func129, Tryz.ntmps129
  go_wp2_with fail
  refine (rest_any g s p ov _ H.out hp hs).mono ?_
  rintro e w1 ⟨rfl, n1, rfl⟩
  go_wp2_with fail
  refine (hp2 _).mono ?_
  rintro e w1 ⟨rfl, n2, rfl⟩
  go_wp2_with fail
  go_end0
  exact ⟨rfl, (H.out.drewN _).put (p + t.size), ((Ch.refl g w).drewN _).set 1 _⟩
def untilT (s : ByteArray) (p : Nat) (t : List UInt8) : Except (Nat × Int) (List UInt8 × Nat) :=
 if (Lib.cut (rs s p) t).2.2 = true then .ok ((Lib.cut (rs s p) t).1, p + ((Lib.cut (rs s p) t).1.length + t.length)) else .error (p, 21)
def strV (l : List UInt8) : Value := .string ⟨l.toArray⟩
def untilR (s : ByteArray) (p : Nat) (t : List UInt8) : Except (Nat × Int) (Value × Nat) := (untilT s p t).map fun x => (strV x.1, x.2)
theorem cut_len (l t : List UInt8) (h : (Lib.cut l t).2.2 = true) : (Lib.cut l t).1.length + t.length ≤ l.length := by
 unfold Lib.cut at h ⊢
 split at h
 ·
  rename_i h0
  rw [if_pos h0]
  obtain ⟨k, hk⟩ := Int.eq_ofNat_of_zero_le h0
  have := Lib.index_room l t h0
  simp
  omega
 ·
  cases h
theorem until_any (g : Nat) (s : ByteArray) (p : Nat) (ov : Value) (t : ByteArray) (w : World) (h : Rd g s p ov w) (hG : Gl g w) (hp : p ≤ s.size) (hs : s.size ≤ 1048576) (ht : t.size ≤ 16) :
  Calls Tryz.prog 89 #[.pointer (some ⟨g, 0, none⟩), .string t] w (Res g s ov w (untilR s p t.data.toList)) := by
 have hlt := h.lt
 have H := Lib.hid h
 have hsz : (s.extract p s.size).size ≤ s.size := by simp
 have hcut : ∀ n, ∃ m, w.cell? ⟨2, 0, none⟩ = some (.int .i64 m) ∧ Calls Tryz.prog 67 #[.string (s.extract p s.size), .string t] (w.drewN n) fun e w' => e = .returned (.tuple #[.string ⟨(Lib.cut (rs s p) t.data.toList).1.toArray⟩, .string ⟨(Lib.cut (rs s p) t.data.toList).2.1.toArray⟩, .bool (Lib.cut (rs s p) t.data.toList).2.2]) ∧ ∃ n, w' = w.drewN n := by
  intro n
  obtain ⟨m, hm⟩ := hG.glob.maxLen
  refine ⟨m, hm, ?_⟩
  have := Tryz.strings_Cut (s.extract p s.size) t m (w.drewN n) (by omega) hm
  rw [rs_ext] at this
  refine this.mono ?_
  rintro e w' ⟨he, k, rfl⟩
  exact ⟨he, n + k, by simp⟩
 have hl := cut_len (rs s p) t.data.toList
 have hrl := rs_len s p
 have htl := Lib.size_eq t
 have hR : untilR s p t.data.toList = if (Lib.cut (rs s p) t.data.toList).2.2 = true then .ok (strV (Lib.cut (rs s p) t.data.toList).1, p + ((Lib.cut (rs s p) t.data.toList).1.length + t.size)) else .error (p, 21) := by
  unfold untilR untilT
  rw [htl]
  split <;> rfl
 rw [hR]
 clear hR
 generalize Lib.cut (rs s p) t.data.toList = c at *
 obtain ⟨a0, b, is⟩ := c
 obtain ⟨x, rfl⟩ : ∃ x : ByteArray, x.data.toList = a0 := ⟨⟨a0.toArray⟩, rfl⟩
 simp only [strV] at *
 have e1 : (⟨x.data.toList.toArray⟩ : ByteArray) = x := rfl
 rw [e1] at hcut ⊢
 rw [← Lib.size_eq x] at hl ⊢
 clear e1
 have HC := Lib.hid hcut
 clear hcut
 have c1 := h.at_ 1
 have f1 := h.free 1
 simp at c1
 clear h
 cases is with
 | false =>
  simp only [Bool.false_eq_true, if_false]
  clear hl hrl htl
  go_enter Tryz.func89, Tryz.ntmps89
  go_wp2_with fail
  refine (rest_any g s p ov _ H.out hp hs).mono ?_
  rintro e w1 ⟨rfl, n1, rfl⟩
  go_wp2_with fail
  obtain ⟨m, -, hc⟩ := HC.out n1
  refine hc.mono ?_
  rintro e w1 ⟨rfl, n2, rfl⟩
  go_wp2_with fail
  refine (fail_any p _).mono ?_
  rintro e w1 ⟨he, rfl⟩
  obtain rfl : e = _ := he
  go_wp2_with fail
  exact ⟨rfl, rfl, pw_below_drewN (Below.refl _ _) _⟩
 | true =>
  simp only [if_true]
  have hal : x.size + t.size ≤ s.size - p := by
   have := hl rfl
   omega
  clear hl hrl htl
  go_enter Tryz.func89, Tryz.ntmps89
  go_wp2_with fail
  refine (rest_any g s p ov _ H.out hp hs).mono ?_
  rintro e w1 ⟨rfl, n1, rfl⟩
  go_wp2_with fail
  obtain ⟨m, -, hc⟩ := HC.out n1
  refine hc.mono ?_
  rintro e w1 ⟨rfl, n2, rfl⟩
  go_wp2_with fail
  go_ret
  exact ⟨rfl, (H.out.drewN _).put (p + (x.size + t.size)), ((Ch.refl g w).drewN _).set 1 _⟩
def blankN (l : List UInt8) : Nat := (l.takeWhile blankB).length
theorem trimLeft_blank (l : List UInt8) : Lib.trimLeftS l [32, 9, 13, 10] = l.drop (blankN l) := by
 have hf : ∀ b : UInt8, ([32, 9, 13, 10] : List UInt8).contains b = blankB b := by
  intro b
  rw [Bool.eq_iff_iff]
  simp [blankB]
  constructor
  ·
   rintro (h | h | h | h) <;> simp [h]
  ·
   rintro (((h | h) | h) | h) <;> simp [h]
 unfold Lib.trimLeftS blankN
 rw [show (fun x => ([32, 9, 13, 10] : List UInt8).contains x) = blankB from funext hf]
 induction l with
 | nil => rfl
 | cons b l ih =>
  by_cases h : blankB b = true
  ·
   rw [List.dropWhile_cons_of_pos h, List.takeWhile_cons_of_pos h, ih]
   rfl
  ·
   rw [List.dropWhile_cons_of_neg h, List.takeWhile_cons_of_neg h]
   rfl
theorem blankN_le (l : List UInt8) : blankN l ≤ l.length := (List.takeWhile_sublist _).length_le
theorem trimLeft_any (s : ByteArray) (n : Nat) (l : List UInt8) (hl : s.data.toList = l) (hn : blankN l = n) (w : World) : Calls Tryz.prog 150 #[.string s, .string ⟨#[32, 9, 13, 10]⟩] w fun e w' => e = .returned (.string (s.extract n s.size)) ∧ Below w.heap.size w w' := by
 subst hl
 subst hn
 have h := Any.strings_TrimLeft_laid Tryz.lays161 (by kernel_rfl) s ⟨#[32, 9, 13, 10]⟩ w (by decide) (ascii_of_all (by decide))
 change Calls Tryz.prog 150 _ _ _ at h
 have e1 : (⟨#[32, 9, 13, 10]⟩ : ByteArray).data.toList = [32, 9, 13, 10] := rfl
 rw [e1, trimLeft_blank, ← Lib.extract_to_end] at h
 exact h
theorem blanks_any (g : Nat) (s : ByteArray) (p : Nat) (ov : Value) (w : World) (h : Rd g s p ov w) (hG : Gl g w) (hp : p ≤ s.size) (hs : s.size ≤ 1048576) (n : Nat) (hn : blankN (rs s p) = n) :
  Calls Tryz.prog 128 #[.pointer (some ⟨g, 0, none⟩)] w (Res g s ov w (.ok (.bool (decide (0 < n)), p + n))) := by
 have hlt := h.lt
 have H := Lib.hid h
 have hnl : n ≤ s.size - p := by
  rw [← hn, ← rs_len]
  exact blankN_le _
 have hT := fun w => trimLeft_any (s.extract p s.size) n (rs s p) (rs_ext s p) hn w
 have hxs : (s.extract p s.size).size = s.size - p := by simp
 have hys : ((s.extract p s.size).extract n (s.extract p s.size).size).size = s.size - p - n := by simp
 have c1 := h.at_ 1
 have f1 := h.free 1
 simp at c1
 have hd : ((s.size - p : Nat) : Int) - ((s.size - p - n : Nat) : Int) = n := by omega
 clear h hn
 generalize hx : s.extract p s.size = x at *
 generalize hy : x.extract n x.size = y at *
 have HX := Lib.hid hxs
 have HY := Lib.hid hys
 have HD := Lib.hid hd
 have Hr := fun w h => rest_any g s p ov w h hp hs
 rw [hx] at Hr
 clear hxs hys hd hx hy
 go_enter Tryz.func128, Tryz.ntmps128
 go_wp2_with fail
 refine (Hr _ H.out).mono ?_
 rintro e w1 ⟨rfl, n1, rfl⟩
 go_wp2_with fail
 refine (Hr _ (H.out.drewN _)).mono ?_
 rintro e w1 ⟨rfl, n2, rfl⟩
 go_wp2_with fail
 refine (hT _).mono ?_
 rintro e w2 ⟨rfl, hb⟩
 have hb' : Below w.heap.size w w2 := (pw_below_drewN (Below.refl _ _) _).trans hb
 have h2 := H.out.below hb'
 have c2 := h2.at_ 1
 have f2 := h2.free 1
 simp at c2
 have H2 := Lib.hid h2
 clear h2
 have hsub : ((x.size : Nat) : Int) - ((y.size : Nat) : Int) = n := by rw [HX.out, HY.out]; exact HD.out
 have hxm : x.size ≤ 1048576 := by rw [HX.out]; omega
 have hym : y.size ≤ 1048576 := by rw [HY.out]; omega
 clear c1 f1 hT Hr
 go_wp2
 go_ret
 exact ⟨rfl, H2.out.put (p + n), ((Ch.of_below hb' (Nat.le_of_lt hlt)).set 1 _)⟩
def plainT (l : List UInt8) (b : Nat) : Except (Nat × Int) (List UInt8) := if (un l 0 []).2.2 = 0 then .ok (un l 0 []).1 else .error (b + (un l 0 []).2.1, (un l 0 []).2.2)
def PlainRes (w : World) (r : Except (Nat × Int) (List UInt8)) (e : Ending) (w' : World) : Prop :=
 match r with
 | .ok l => e = .returned (strV l) ∧ Below w.heap.size w w'
 | .error (a, er) => Thrown e a er ∧ Below w.heap.size w w'
theorem plain_any (s : ByteArray) (b : Nat) (w : World) (hG : Glob w) (hs : s.size ≤ 1048576) (hb : b ≤ 1048576) :
  Calls Tryz.prog 96 #[.string s, .int .i64 b] w (PlainRes w (plainT s.data.toList b)) := by
 have hf : text_Unescape.f s = some (⟨(un s.data.toList 0 []).1.toArray⟩, ((un s.data.toList 0 []).2.1 : Int), (un s.data.toList 0 []).2.2) := by
  unfold text_Unescape.f
  rw [if_pos (by omega)]
  unfold un
  rw [show s.data.toList.length = s.size by simp]
 have hc := text_Unescape.calls s _ _ _ w hf hG
 clear hf
 unfold plainT
 have hle := un_place s.data.toList.length s.data.toList 0 [] (Nat.le_refl _)
 rw [Nat.zero_add, ← Lib.size_eq] at hle
 generalize un s.data.toList 0 [] = R at *
 obtain ⟨l, at_, er⟩ := R
 simp only at *
 by_cases h0 : er = 0
 ·
  subst h0
  rw [if_pos rfl]
  go_enter Tryz.func96, Tryz.ntmps96
  go_wp2_with fail
  refine hc.mono ?_
  rintro e w1 ⟨rfl, hb1⟩
  go_wp2_with fail
  go_ret
  exact ⟨rfl, hb1⟩
 ·
  rw [if_neg h0]
  have hne : ¬ (er == 0) = true := by simpa using h0
  have hne2 : (er != 0) = true := by simpa using h0
  have Hle := hle
  go_enter Tryz.func96, Tryz.ntmps96
  go_wp2_with fail
  refine hc.mono ?_
  rintro e w1 ⟨rfl, hb1⟩
  go_wp2_with fail
  exact ⟨rfl, rfl, hb1⟩
end Go.Proofs.YtknfpggiigncpaaGreatDoor.C
