/- token's forms: comments, CDATA, closings: their contracts; a name among attributes. -/
import Derived.Test.YtknfpggiigncpaaGreatDoorXTok2
import Derived.Deep.RegionLaw
set_option maxHeartbeats 4000000
set_option maxRecDepth 100000
set_option linter.unusedVariables false
set_option linter.unusedSimpArgs false
section
namespace Go.Proofs.YtknfpggiigncpaaGreatDoor.C
open Go.RowKit P A YtknfpggiigncpaaGreatDoorW.PrintWords YtknfpggiigncpaaGreatDoorW.PrintLast YtknfpggiigncpaaGreatDoorW.PrintMore
theorem info44 : (Tryz.prog.info? 44).map (fun i => (i.zero, i.size, i.bytes)) = some (some (.agg #[(.int .u8 0), (.string ⟨#[]⟩), (.string ⟨#[]⟩), (.slice none 0 0), (.bool false), (.int .i64 0)]), 6, 80) := by kernel_rfl
def putT (xs : List S44) (t : S44) : List S44 := if t.f0 = 3 ∧ t.f2.data.toList = [] then xs else xs ++ [t]
def Own (g : Nat) (ov : Value) (xs : List S44) (w : World) : Prop := Kd.S k44 44 w (g + 1) (fun k => g < k) ov xs
theorem Own.ch {g : Nat} {ov : Value} {xs : List S44} {w w1 : World} (h : Own g ov xs w) (hc : Ch g w w1) : Own g ov xs w1 := Kd.S_keep h hc.2 (fun k hk => Nat.ne_of_gt hk)
theorem keepW {w w1 : World} {g : Nat} (h : KeepBut w w1 g none) (row : Option Nat) : KeepBut w w1 g row := ⟨h.1, fun i hi hg _ => h.2 i hi hg (by simp)⟩
theorem keepT {w w1 w2 : World} {g : Nat} {row : Option Nat} (h : KeepBut w w1 g none) (k : KeepBut w1 w2 g row) : KeepBut w w2 g row := (keepW h row).trans k (.inl rfl)
def PutRes (g : Nat) (s : ByteArray) (p : Nat) (ov : Value) (xs : List S44) (w : World) (e : Ending) (w' : World) : Prop :=
 e = .returned (.tuple #[]) ∧ ∃ ov', Rd g s p ov' w' ∧ Own g ov' xs w' ∧ Below g w w' ∧ KeepBut w w' g ov.ownBlock
theorem put_any (g : Nat) (s : ByteArray) (p : Nat) (ov va : Value) (xs : List S44) (t : S44) (okv okp : Nat → Prop) (w : World) (h : Rd g s p ov w) (hS : Kd.S k44 44 w (g + 1) okv ov xs) (hT : k77.R 77 w (g + 1) okp va t.f3)
  (hokv : ∀ k, okv k → g < k ∧ ¬ okp k) (hokp : ∀ k, okp k → g < k) (hl : xs.length ≤ 1048576) :
  Calls Tryz.prog 95 #[.pointer (some ⟨g, 0, none⟩), .agg #[.int .u8 t.f0, .string t.f1, .string t.f2, va, .bool t.f4, .int .i64 t.f5]] w (PutRes g s p ov (putT xs t) w) := by
 have hlt := h.lt
 have H := Lib.hid h
 have hne : ∀ k, ov.ownBlock = some k → okv k := by
  obtain ⟨f, hf⟩ := hS
  exact hf.1
 by_cases h3 : t.f0 = 3
 ·
  by_cases h0 : t.f2.data.toList = []
  ·
   have hp : putT xs t = xs := by
    unfold putT
    rw [if_pos ⟨h3, h0⟩]
   rw [hp]
   have g3 : (t.f0 != 3) = false := by simpa using h3
   have g0 : t.f2 = ⟨#[]⟩ := by
    apply ByteArray.ext
    apply Array.toList_inj.1
    exact h0
   have hO : Own g ov xs (w.alloc (.cells #[.int .u8 t.f0, .string t.f1, .string t.f2, va, .bool t.f4, .int .i64 t.f5] 44)) := Kd.S_mono (Kd.S_alloc hS _) (fun k hk => (hokv k hk).1)
   rw [g0] at hO ⊢
   have HO := Lib.hid hO
   clear h3 hp hO g0 h0 hS hT hokv hokp hne h
   go_enter Tryz.func95, Tryz.ntmps95
   go_wp2
   go_end0
   exact ⟨rfl, ov, H.out.below (below_alloc (Below.refl _ _) _), HO.out, ((Below.refl _ _).alloc (by omega) _), KeepBut.of_below (below_alloc (Below.refl _ _) _) _ _⟩
  ·
   have hp : putT xs t = xs ++ [t] := by
    unfold putT
    rw [if_neg (fun h => h0 h.2)]
   rw [hp]
   have g3 : (t.f0 != 3) = false := by simpa using h3
   have g4 : t.f2.toList.isEmpty = false := by
    rw [Lib.toList_data]
    simpa using h0
   clear h3 hp h0
   have c2 := h.at_ 2
   have f2 := h.free 2
   simp at c2
   have HS := Lib.hid hS
   have HT := Lib.hid hT
   have HV := Lib.hid hokv
   have HP := Lib.hid hokp
   have HN := Lib.hid hne
   clear hS hT hokv hokp hne h
   go_enter Tryz.func95, Tryz.ntmps95
   go_wp2
   go_region_law (refine Kd.S_append_step k44 (w0 := w) (W := (w.alloc (.cells #[.int .u8 t.f0, .string t.f1, .string t.f2, va, .bool t.f4, .int .i64 t.f5] 44)).drew) (g + 1) (by rfl) (.tmp 16) (.tmp 18) 34 44 _ 80 (by rfl) Tryz.underlying34 info44 rfl (by decide) (by decide) ov xs t [.int .u8 t.f0, .string t.f1, .string t.f2, va, .bool t.f4, .int .i64 t.f5] (fun k => g < k) okp (by simp [Act.eval, Act.put]) (by simp [Act.eval, Act.put]) (k44_mkM _ _ _ t (Kd.R_below HT.out (by repeat (first | exact Below.refl _ _ | apply below_drew | apply pw_below_drewN | apply below_alloc)))) (fun k hk => ⟨HP.out k hk, fun e => (HV.out k (HN.out k e.symm)).2 hk⟩) (fun k hk => by simp at hk; omega) (Kd.S_mono (Kd.S_below HS.out (by repeat (first | exact Below.refl _ _ | apply below_drew | apply pw_below_drewN | apply below_alloc))) HV.out) (((Below.refl _ _).alloc (by omega) _).drew) (by simp; omega) (by omega) ?_; intro v1 w1 hS1 hb1 hg1 hat1; have hR1 : Rd g s p ov w1 := (hg1.block g (by simp; omega) (fun e => Nat.lt_irrefl g ((HV.out g (HN.out g e.symm)).1))).trans ((Below.heap_alloc _ _ _ hlt).trans H.out); obtain ⟨A1, c1, rfl⟩ := Kd.S_slice hS1; (have hl1 : (xs ++ [t]).length = xs.length + 1 := by simp); rw [hl1] at hS1; clear hl1; have d2 := hR1.at_ 2; have e2 := hR1.free 2; simp at d2; have HS1 := Lib.hid hS1; have HB1 := Lib.hid hb1; have HR1 := Lib.hid hR1; have HK1 := Lib.hid (show KeepBut w w1 g ov.ownBlock from (KeepBut.of_below (((Below.refl _ w).alloc (Nat.le_refl _) _).drew) g _).trans (KeepBut.of_grown hg1 g) (.inl rfl)); clear hS1 hb1 hg1 hat1 hR1)
   all_goals
    go_wp2
    go_end0
    refine ⟨rfl, _, heap_setCell_same _ _ _ _ _ _ HR1.out, ?_, ?_, HK1.out.set_ 2 _⟩
    ·
     exact Kd.S_far (p := ⟨g, 2, none⟩) HS1.out (fun k hk => Nat.ne_of_gt hk) _
    ·
     exact (HB1.out.mono (Nat.le_succ g)).setCell (p := ⟨g, 2, none⟩) (Nat.le_refl _) _
 ·
  have hp : putT xs t = xs ++ [t] := by
   unfold putT
   rw [if_neg (fun h => h3 h.1)]
  rw [hp]
  have g3 : (t.f0 != 3) = true := by simpa using h3
  clear h3 hp
  have c2 := h.at_ 2
  have f2 := h.free 2
  simp at c2
  have HS := Lib.hid hS
  have HT := Lib.hid hT
  have HV := Lib.hid hokv
  have HP := Lib.hid hokp
  have HN := Lib.hid hne
  clear hS hT hokv hokp hne h
  go_enter Tryz.func95, Tryz.ntmps95
  go_wp2
  go_region_law (refine Kd.S_append_step k44 (w0 := w) (W := (w.alloc (.cells #[.int .u8 t.f0, .string t.f1, .string t.f2, va, .bool t.f4, .int .i64 t.f5] 44)).drew) (g + 1) (by rfl) (.tmp 16) (.tmp 18) 34 44 _ 80 (by rfl) Tryz.underlying34 info44 rfl (by decide) (by decide) ov xs t [.int .u8 t.f0, .string t.f1, .string t.f2, va, .bool t.f4, .int .i64 t.f5] (fun k => g < k) okp (by simp [Act.eval, Act.put]) (by simp [Act.eval, Act.put]) (k44_mkM _ _ _ t (Kd.R_below HT.out (by repeat (first | exact Below.refl _ _ | apply below_drew | apply pw_below_drewN | apply below_alloc)))) (fun k hk => ⟨HP.out k hk, fun e => (HV.out k (HN.out k e.symm)).2 hk⟩) (fun k hk => by simp at hk; omega) (Kd.S_mono (Kd.S_below HS.out (by repeat (first | exact Below.refl _ _ | apply below_drew | apply pw_below_drewN | apply below_alloc))) HV.out) (((Below.refl _ _).alloc (by omega) _).drew) (by simp; omega) (by omega) ?_; intro v1 w1 hS1 hb1 hg1 hat1; have hR1 : Rd g s p ov w1 := (hg1.block g (by simp; omega) (fun e => Nat.lt_irrefl g ((HV.out g (HN.out g e.symm)).1))).trans ((Below.heap_alloc _ _ _ hlt).trans H.out); obtain ⟨A1, c1, rfl⟩ := Kd.S_slice hS1; (have hl1 : (xs ++ [t]).length = xs.length + 1 := by simp); rw [hl1] at hS1; clear hl1; have d2 := hR1.at_ 2; have e2 := hR1.free 2; simp at d2; have HS1 := Lib.hid hS1; have HB1 := Lib.hid hb1; have HR1 := Lib.hid hR1; have HK1 := Lib.hid (show KeepBut w w1 g ov.ownBlock from (KeepBut.of_below (((Below.refl _ w).alloc (Nat.le_refl _) _).drew) g _).trans (KeepBut.of_grown hg1 g) (.inl rfl)); clear hS1 hb1 hg1 hat1 hR1)
  all_goals
   go_wp2
   go_end0
   refine ⟨rfl, _, heap_setCell_same _ _ _ _ _ _ HR1.out, ?_, ?_, HK1.out.set_ 2 _⟩
   ·
    exact Kd.S_far (p := ⟨g, 2, none⟩) HS1.out (fun k hk => Nat.ne_of_gt hk) _
   ·
    exact (HB1.out.mono (Nat.le_succ g)).setCell (p := ⟨g, 2, none⟩) (Nat.le_refl _) _
theorem contains_any (x t : ByteArray) (l tl : List UInt8) (b : Bool) (w : World) (hG : Glob w) (hs : x.size ≤ 1048576) (hl : x.data.toList = l) (ht : t.data.toList = tl) (hb : Lib.contains l tl = b) :
  Calls Tryz.prog 88 #[.string x, .string t] w fun e w' => e = .returned (.bool b) ∧ w' = w := by
 subst hl
 subst ht
 subst hb
 obtain ⟨m, hm⟩ := hG.maxLen
 exact Tryz.strings_Contains x t m w (by omega) hm
theorem untilR_ok {s : ByteArray} {p : Nat} {t a : List UInt8} {q : Nat} (h : untilT s p t = .ok (a, q)) : untilR s p t = .ok (strV a, q) := by
 unfold untilR
 rw [h]
 rfl
theorem untilR_error {s : ByteArray} {p : Nat} {t : List UInt8} {x : Nat × Int} (h : untilT s p t = .error x) : untilR s p t = .error x := by
 unfold untilR
 rw [h]
 rfl
theorem untilT_le {s : ByteArray} {p : Nat} {t a : List UInt8} {q : Nat} (h : untilT s p t = .ok (a, q)) (hp : p ≤ s.size) : q ≤ s.size ∧ p ≤ q ∧ a.length ≤ s.size := by
 unfold untilT at h
 split at h
 ·
  rename_i hc
  have := cut_len _ _ hc
  rw [rs_len] at this
  injection h with h
  injection h with h1 h2
  subst h1
  omega
 ·
  cases h
theorem nameR_ok {s : ByteArray} {p : Nat} {a : List UInt8} {q : Nat} (h : nameT s p = .ok (a, q)) : nameR s p = .ok (strV a, q) := by
 unfold nameR
 rw [h]
 rfl
theorem nameR_error {s : ByteArray} {p : Nat} {x : Nat × Int} (h : nameT s p = .error x) : nameR s p = .error x := by
 unfold nameR
 rw [h]
 rfl
theorem nameT_le {s : ByteArray} {p : Nat} {a : List UInt8} {q : Nat} (h : nameT s p = .ok (a, q)) (hp : p ≤ s.size) : q ≤ s.size ∧ p < q ∧ a.length ≤ s.size := by
 unfold nameT at h
 have hN := nmLen_le (rs s p)
 rw [rs_len] at hN
 split at h
 ·
  cases h
 ·
  injection h with h
  injection h with h1 h2
  subst h1
  rw [List.length_take, rs_len]
  omega
theorem mustR_ok {s : ByteArray} {p : Nat} {t : List UInt8} {q : Nat} (h : mustT s p t = .ok q) : mustR s p t = .ok (.tuple #[], q) := by
 unfold mustR
 rw [h]
 rfl
theorem mustR_error {s : ByteArray} {p : Nat} {t : List UInt8} {x : Nat × Int} (h : mustT s p t = .error x) : mustR s p t = .error x := by
 unfold mustR
 rw [h]
 rfl
theorem mustT_le {s : ByteArray} {p : Nat} {t : List UInt8} {q : Nat} (h : mustT s p t = .ok q) (hp : p ≤ s.size) : q ≤ s.size ∧ q = p + t.length := by
 unfold mustT at h
 split at h
 ·
  rename_i hc
  have := Lib.hasPrefix_le hc
  rw [rs_len] at this
  injection h with h
  omega
 ·
  cases h
def FormRes (g : Nat) (s : ByteArray) (ov : Value) (w : World) (r : Except (Nat × Int) (Nat × List S44)) (e : Ending) (w' : World) : Prop :=
 match r with
 | .ok (q, ys) => e = .returned (.tuple #[]) ∧ ∃ ov', Rd g s q ov' w' ∧ Own g ov' ys w' ∧ Below g w w' ∧ KeepBut w w' g ov.ownBlock
 | .error (a, er) => Thrown e a er ∧ Below g w w'
def form1T (s : ByteArray) (p : Nat) : Except (Nat × Int) Nat :=
 match untilT s p [45, 45, 62] with
 | .error x => .error x
 | .ok (a, q) => if Lib.contains a [45, 45] = true then .error (p - 4, 21) else .ok q
def form1R (s : ByteArray) (p : Nat) (xs : List S44) : Except (Nat × Int) (Nat × List S44) := (form1T s p).map fun q => (q, xs)
theorem form1_any (g : Nat) (s : ByteArray) (b : Nat) (ov : Value) (xs : List S44) (w : World) (h : Rd g s (b + 4) ov w) (hO : Own g ov xs w) (hG : Gl g w) (hp : b + 4 ≤ s.size) (hs : s.size ≤ 1048576) :
  Calls Tryz.prog 124 #[.pointer (some ⟨g, 0, none⟩)] w (FormRes g s ov w (form1R s (b + 4) xs)) := by
 have hlt := h.lt
 have c1 := h.at_ 1
 simp at c1
 have hsub : ((b : Int) + 4) - 4 = b := by omega
 have hU := until_any g s (b + 4) ov ⟨#[45, 45, 62]⟩ w h hG hp hs (by decide)
 rw [show (⟨#[45, 45, 62]⟩ : ByteArray).data.toList = [45, 45, 62] from rfl] at hU
 have H := Lib.hid h
 have HO := Lib.hid hO
 clear h hO
 cases hu : untilT s (b + 4) [45, 45, 62] with
 | error x =>
  obtain ⟨a, er⟩ := x
  have hr : form1R s (b + 4) xs = .error (a, er) := by
   unfold form1R form1T
   rw [hu]
   rfl
  rw [hr]
  rw [untilR_error hu] at hU
  clear hr hu
  go_enter Tryz.func124, Tryz.ntmps124
  go_wp2_with fail
  refine hU.mono ?_
  rintro e w1 hr
  obtain ⟨rfl, hb⟩ := hr.error
  go_wp2_with fail
  exact ⟨rfl, rfl, hb⟩
 | ok x =>
  obtain ⟨a, q⟩ := x
  have hle := untilT_le hu hp
  rw [untilR_ok hu] at hU
  obtain ⟨y, rfl⟩ : ∃ y : ByteArray, y.data.toList = a := ⟨⟨a.toArray⟩, rfl⟩
  rw [show strV y.data.toList = .string y from rfl] at hU
  have hsy : y.size ≤ 1048576 := by rw [Lib.size_eq]; omega
  cases hc : Lib.contains y.data.toList [45, 45] with
  | true =>
   have hr : form1R s (b + 4) xs = .error (b, 21) := by
    unfold form1R form1T
    rw [hu]
    simp only [hc, if_true]
    rfl
   rw [hr]
   clear hr hu
   go_enter Tryz.func124, Tryz.ntmps124
   go_wp2_with fail
   refine hU.mono ?_
   rintro e w1 hr
   obtain ⟨rfl, hR1, hC1⟩ := hr.ok
   have hG1 := hG.ch hC1.1
   go_wp2_with fail
   refine (contains_any y ⟨#[45, 45]⟩ _ [45, 45] true w1 hG1.glob hsy rfl rfl hc).mono ?_
   rintro e w2 ⟨rfl, rfl⟩
   go_wp2_with fail
   refine (fail_any b _).mono ?_
   rintro e w3 ⟨he, rfl⟩
   obtain rfl : e = _ := he
   go_wp2_with fail
   exact ⟨rfl, rfl, hC1.1⟩
  | false =>
   have hr : form1R s (b + 4) xs = .ok (q, xs) := by
    unfold form1R form1T
    rw [hu]
    simp only [hc]
    rfl
   rw [hr]
   clear hr hu
   go_enter Tryz.func124, Tryz.ntmps124
   go_wp2_with fail
   refine hU.mono ?_
   rintro e w1 hr
   obtain ⟨rfl, hR1, hC1⟩ := hr.ok
   have hG1 := hG.ch hC1.1
   have HR1 := Lib.hid hR1
   clear hR1
   go_wp2_with fail
   refine (contains_any y ⟨#[45, 45]⟩ _ [45, 45] false w1 hG1.glob hsy rfl rfl hc).mono ?_
   rintro e w2 ⟨rfl, rfl⟩
   go_wp2_with fail
   go_end0
   exact ⟨rfl, ov, HR1.out, HO.out.ch hC1, hC1.1, keepW hC1.2 _⟩
def form2T (s : ByteArray) (p : Nat) (xs : List S44) : Except (Nat × Int) (Nat × List S44) :=
 match untilT s p [93, 93, 62] with
 | .error x => .error x
 | .ok (a, q) => .ok (q, putT xs ⟨3, ⟨#[]⟩, ⟨a.toArray⟩, [], false, ((p - 9 : Nat) : Int)⟩)
theorem form2_any (g : Nat) (s : ByteArray) (b : Nat) (ov : Value) (xs : List S44) (w : World) (h : Rd g s (b + 9) ov w) (hO : Own g ov xs w) (hG : Gl g w) (hp : b + 9 ≤ s.size) (hs : s.size ≤ 1048576) (hl : xs.length ≤ 1048576) :
  Calls Tryz.prog 125 #[.pointer (some ⟨g, 0, none⟩)] w (FormRes g s ov w (form2T s (b + 9) xs)) := by
 have hlt := h.lt
 have c1 := h.at_ 1
 simp at c1
 have hsub : ((b : Int) + 9) - 9 = b := by omega
 have hU := until_any g s (b + 9) ov ⟨#[93, 93, 62]⟩ w h hG hp hs (by decide)
 rw [show (⟨#[93, 93, 62]⟩ : ByteArray).data.toList = [93, 93, 62] from rfl] at hU
 have H := Lib.hid h
 have HO := Lib.hid hO
 clear h hO
 cases hu : untilT s (b + 9) [93, 93, 62] with
 | error x =>
  obtain ⟨a, er⟩ := x
  have hr : form2T s (b + 9) xs = .error (a, er) := by
   unfold form2T
   rw [hu]
  rw [hr]
  rw [untilR_error hu] at hU
  clear hr hu
  go_enter Tryz.func125, Tryz.ntmps125
  go_wp2_with fail
  refine hU.mono ?_
  rintro e w1 hr
  obtain ⟨rfl, hb⟩ := hr.error
  go_wp2_with fail
  exact ⟨rfl, rfl, hb⟩
 | ok x =>
  obtain ⟨a, q⟩ := x
  have hle := untilT_le hu hp
  rw [untilR_ok hu] at hU
  obtain ⟨y, rfl⟩ : ∃ y : ByteArray, y.data.toList = a := ⟨⟨a.toArray⟩, rfl⟩
  rw [show strV y.data.toList = .string y from rfl] at hU
  have hr : form2T s (b + 9) xs = .ok (q, putT xs ⟨3, ⟨#[]⟩, y, [], false, (b : Int)⟩) := by
   unfold form2T
   rw [hu]
   rfl
  rw [hr]
  clear hr hu
  go_enter Tryz.func125, Tryz.ntmps125
  go_wp2_with fail
  refine hU.mono ?_
  rintro e w1 hr
  obtain ⟨rfl, hR1, hC1⟩ := hr.ok
  go_wp2_with fail
  refine (put_any g s q ov (.slice none 0 0) xs ⟨3, ⟨#[]⟩, y, [], false, (b : Int)⟩ (fun k => g < k) (fun _ => False) w1 hR1 (HO.out.ch hC1) (Kd.R_nil _ _ _ _ _) (fun k hk => ⟨hk, fun h => h⟩) (fun _ h => h.elim) hl).mono ?_
  rintro e w2 ⟨rfl, ov2, hR2, hO2, hB2, hK2⟩
  go_wp2_with fail
  go_end0
  exact ⟨rfl, ov2, hR2, hO2, hC1.1.trans hB2, keepT hC1.2 hK2⟩
def form3T (s : ByteArray) (p : Nat) (xs : List S44) : Except (Nat × Int) (Nat × List S44) :=
 match nameT s p with
 | .error x => .error x
 | .ok (a, q) =>
  match mustT s (q + blankN (rs s q)) [62] with
  | .error x => .error x
  | .ok q2 => .ok (q2, putT xs ⟨2, ⟨a.toArray⟩, ⟨#[]⟩, [], false, ((p - 2 : Nat) : Int)⟩)
theorem rd_alloc {g : Nat} {s : ByteArray} {p : Nat} {ov : Value} {w : World} (h : Rd g s p ov w) (o : Obj) : Rd g s p ov (w.alloc o) := h.below (below_alloc (Below.refl _ _) _)
theorem ch_alloc {g : Nat} {w w1 : World} (h : Ch g w w1) (hg : g < w1.heap.size) (o : Obj) : Ch g w (w1.alloc o) := h.trans (Ch.of_below (below_alloc (Below.refl _ _) _) (Nat.le_of_lt hg))
theorem form3_any (g : Nat) (s : ByteArray) (b : Nat) (ov : Value) (xs : List S44) (w : World) (h : Rd g s (b + 2) ov w) (hO : Own g ov xs w) (hG : Gl g w) (hp : b + 2 ≤ s.size) (hs : s.size ≤ 1048576) (hl : xs.length ≤ 1048576) :
  Calls Tryz.prog 126 #[.pointer (some ⟨g, 0, none⟩)] w (FormRes g s ov w (form3T s (b + 2) xs)) := by
 have hlt := h.lt
 have c1 := h.at_ 1
 simp at c1
 have hsub : ((b : Int) + 2) - 2 = b := by omega
 have hU := name_any g s (b + 2) ov w h hp hs
 have H := Lib.hid h
 have HO := Lib.hid hO
 clear h hO
 cases hu : nameT s (b + 2) with
 | error x =>
  obtain ⟨a, er⟩ := x
  have hr : form3T s (b + 2) xs = .error (a, er) := by
   unfold form3T
   rw [hu]
  rw [hr]
  rw [nameR_error hu] at hU
  clear hr hu
  go_enter Tryz.func126, Tryz.ntmps126
  go_wp2_with fail
  refine hU.mono ?_
  rintro e w1 hr
  obtain ⟨rfl, hb⟩ := hr.error
  go_wp2_with fail
  exact ⟨rfl, rfl, hb⟩
 | ok x =>
  obtain ⟨a, q⟩ := x
  have hle := nameT_le hu hp
  rw [nameR_ok hu] at hU
  obtain ⟨y, rfl⟩ : ∃ y : ByteArray, y.data.toList = a := ⟨⟨a.toArray⟩, rfl⟩
  rw [show strV y.data.toList = .string y from rfl] at hU
  have hbl := blankN_le (rs s q)
  rw [rs_len] at hbl
  obtain ⟨n, hn⟩ : ∃ n, blankN (rs s q) = n := ⟨_, rfl⟩
  rw [hn] at hbl
  cases hm : mustT s (q + n) [62] with
  | error x =>
   obtain ⟨a, er⟩ := x
   have hr : form3T s (b + 2) xs = .error (a, er) := by
    unfold form3T
    rw [hu]
    simp only [hn, hm]
   rw [hr]
   clear hr hu
   go_enter Tryz.func126, Tryz.ntmps126
   go_wp2_with fail
   refine hU.mono ?_
   rintro e w1 hr
   obtain ⟨rfl, hR1, hC1⟩ := hr.ok
   have hG1 := hG.ch hC1.1
   have hR1a := rd_alloc hR1 (.cells #[.int .u8 2, .string y, .string ⟨#[]⟩, .slice none 0 0, .bool false, .int .i64 b] 44)
   have hC1a := ch_alloc hC1 hR1.lt (.cells #[.int .u8 2, .string y, .string ⟨#[]⟩, .slice none 0 0, .bool false, .int .i64 b] 44)
   have hG1a := hG.ch hC1a.1
   clear hR1 hC1 hG1
   go_wp2_with fail
   refine (blanks_any g s q ov _ hR1a hG1a (by omega) hs n hn).mono ?_
   rintro e w2 hr
   obtain ⟨rfl, hR2, hC2⟩ := hr.ok
   go_wp2_with fail
   have hM := must_any g s (q + n) ov ⟨#[62]⟩ w2 hR2 (by omega) hs
   rw [show (⟨#[62]⟩ : ByteArray).data.toList = [62] from rfl, mustR_error hm] at hM
   refine hM.mono ?_
   rintro e w3 hr
   obtain ⟨rfl, hb⟩ := hr.error
   go_wp2_with fail
   exact ⟨rfl, rfl, hC1a.1.trans (hC2.1.trans hb)⟩
  | ok q2 =>
   have hle2 := mustT_le hm (by omega)
   have hr : form3T s (b + 2) xs = .ok (q2, putT xs ⟨2, y, ⟨#[]⟩, [], false, (b : Int)⟩) := by
    unfold form3T
    rw [hu]
    simp only [hn, hm]
    rfl
   rw [hr]
   clear hr hu
   go_enter Tryz.func126, Tryz.ntmps126
   go_wp2_with fail
   refine hU.mono ?_
   rintro e w1 hr
   obtain ⟨rfl, hR1, hC1⟩ := hr.ok
   have hR1a := rd_alloc hR1 (.cells #[.int .u8 2, .string y, .string ⟨#[]⟩, .slice none 0 0, .bool false, .int .i64 b] 44)
   have hC1a := ch_alloc hC1 hR1.lt (.cells #[.int .u8 2, .string y, .string ⟨#[]⟩, .slice none 0 0, .bool false, .int .i64 b] 44)
   have hG1a := hG.ch hC1a.1
   have hlt1 := hR1.lt
   have hblk : (w1.alloc (.cells #[.int .u8 2, .string y, .string ⟨#[]⟩, .slice none 0 0, .bool false, .int .i64 b] 44)).heap[w1.heap.size]? = some (.cells #[.int .u8 2, .string y, .string ⟨#[]⟩, .slice none 0 0, .bool false, .int .i64 b] 44 (0, 0)) := by
    show (w1.heap.push _)[w1.heap.size]? = _
    simp
   have HB := Lib.hid hblk
   clear hR1 hC1 hblk
   go_wp2_with fail
   refine (blanks_any g s q ov _ hR1a hG1a (by omega) hs n hn).mono ?_
   rintro e w2 hr
   obtain ⟨rfl, hR2, hC2⟩ := hr.ok
   go_wp2_with fail
   have hM := must_any g s (q + n) ov ⟨#[62]⟩ w2 hR2 (by omega) hs
   rw [show (⟨#[62]⟩ : ByteArray).data.toList = [62] from rfl, mustR_ok hm] at hM
   refine hM.mono ?_
   rintro e w3 hr
   obtain ⟨rfl, hR3, hC3⟩ := hr.ok
   have hb3 : w3.heap[w1.heap.size]? = some (.cells #[.int .u8 2, .string y, .string ⟨#[]⟩, .slice none 0 0, .bool false, .int .i64 b] 44 (0, 0)) := (hC2.trans hC3).2.blk HB.out (Nat.ne_of_gt hlt1) (by simp)
   have k0 := cell_of_row _ _ 0 _ _ _ hb3
   have k1 := cell_of_row _ _ 1 _ _ _ hb3
   have k2 := cell_of_row _ _ 2 _ _ _ hb3
   have k3 := cell_of_row _ _ 3 _ _ _ hb3
   have k4 := cell_of_row _ _ 4 _ _ _ hb3
   have k5 := cell_of_row _ _ 5 _ _ _ hb3
   simp at k0 k1 k2 k3 k4 k5
   clear hb3 HB hR2 hM
   go_wp2_with fail
   refine (put_any g s q2 ov (.slice none 0 0) xs ⟨2, y, ⟨#[]⟩, [], false, (b : Int)⟩ (fun k => g < k) (fun _ => False) w3 hR3 (HO.out.ch (hC1a.trans (hC2.trans hC3))) (Kd.R_nil _ _ _ _ _) (fun k hk => ⟨hk, fun h => h⟩) (fun _ h => h.elim) hl).mono ?_
   rintro e w4 ⟨rfl, ov2, hR4, hO4, hB4, hK4⟩
   go_wp2_with fail
   go_end0
   exact ⟨rfl, ov2, hR4, hO4, hC1a.1.trans (hC2.1.trans (hC3.1.trans hB4)), keepT (hC1a.trans (hC2.trans hC3)).2 hK4⟩
/-! An attribute's name among those that there are. -/
theorem attr1_any (ga : Nat) (nm x v : ByteArray) (b : Bool) (w : World) (hc : w.cell? ⟨ga, 0, none⟩ = some (.string nm)) (hb : (x.toList == nm.toList) = b) :
  Calls Tryz.prog 152 #[.agg #[.string x, .string v], .pointer (some ⟨ga, 0, none⟩)] w fun e w' => e = .returned (.bool b) ∧ Below w.heap.size w w' := by
 have hlt := World.block_lt_of_cell? w _ hc
 have hc' : (w.alloc (.cells #[.string x, .string v] 77)).cell? ⟨ga, 0, none⟩ = some (.string nm) := cellBelow (below_alloc (Below.refl _ _) _) hc
 clear hc
 go_enter Tryz.func152, Tryz.ntmps152
 go_wp2
 go_ret
 exact ⟨rfl, below_alloc (Below.refl _ _) _⟩
def hasName (acc : List S77) (nm : ByteArray) : Bool := acc.any fun b => b.f0.toList == nm.toList
theorem idx_any (ga : Nat) (nm : ByteArray) (av : Value) (acc : List S77) (w : World) (hc : w.cell? ⟨ga, 0, none⟩ = some (.string nm)) (A : Option Addr) (c : Nat) (hv : av = .slice A acc.length c) (hC : k77.C w A acc.length acc) (hl : acc.length ≤ 1048576) :
  Calls Tryz.prog 168 #[av, .func (.func 152) #[] #[.pointer (some ⟨ga, 0, none⟩)]] w fun e w' => (∃ z : Int, e = .returned (.int .i64 z) ∧ (hasName acc nm = decide (0 ≤ z))) ∧ Below w.heap.size w w' := by
 subst hv
 have HC := Lib.hid hC
 have HN := Lib.hid hc
 clear hC hc
 go_enter Tryz.func168, Tryz.ntmps168
 go_wp2_with fail
 go_loopg [8] (acc.length + 1) (fun kq v8 wr => ∃ i : Nat, v8 = .int .i64 i ∧ i ≤ acc.length ∧ Aside0 (kq + i = acc.length + 1) ∧ Aside0 (hasName acc nm = hasName (acc.drop i) nm) ∧ Aside0 (Below w.heap.size w wr))
 case atStart => exact ⟨0, rfl, Nat.zero_le _, ⟨rfl⟩, ⟨rfl⟩, ⟨Below.refl _ _⟩⟩
 case round =>
  obtain ⟨i, rfl, hi, HK, HM, HBl⟩ := hrel
  by_cases hlt : i < acc.length
  ·
   have hCw : k77.C wr A acc.length acc := Kd.C_below HC.out HBl.out
   obtain ⟨ad, e1, k0, k1⟩ := at_T77 hCw (i : Int) (by omega) (by omega)
   subst e1
   simp at k0 k1
   have hN := cellBelow HBl.out HN.out
   have hd : acc.drop i = rd_T77 acc (i : Int) :: acc.drop (i + 1) := by
    rw [List.drop_eq_getElem_cons hlt]
    congr 1
    unfold rd_T77
    rw [Int.toNat_natCast, List.getD_eq_getElem?_getD, List.getElem?_eq_getElem hlt]
    rfl
   have HD := Lib.hid hd
   clear hCw hd
   generalize rd_T77 acc (i : Int) = el at *
   cases hb : (el.f0.toList == nm.toList) with
   | true =>
    go_wp2_with fail
    refine (attr1_any ga nm el.f0 el.f1 true wr hN hb).mono ?_
    rintro e w1 ⟨rfl, hb1⟩
    go_wp2_with fail
    go_ret
    refine ⟨⟨i, rfl, ?_⟩, HBl.out.trans (hb1.mono HBl.out.size)⟩
    rw [HM.out, HD.out]
    simp [hasName, hb]
   | false =>
    go_wp2_with fail
    refine (attr1_any ga nm el.f0 el.f1 false wr hN hb).mono ?_
    rintro e w1 ⟨rfl, hb1⟩
    have hB1 := HBl.out.trans (hb1.mono HBl.out.size)
    clear hb1
    go_wp2_with fail
    go_roundg (acc.length - i)
    case measure => have := HK.out; omega
    case rel =>
     refine ⟨i + 1, by go_num, by omega, ⟨by omega⟩, ⟨?_⟩, ⟨hB1⟩⟩
     rw [HM.out, HD.out]
     simp [hasName, hb]
  ·
   go_wp2_with fail
   go_ret
   refine ⟨⟨-1, rfl, ?_⟩, HBl.out⟩
   rw [HM.out, List.drop_of_length_le (by omega)]
   rfl
theorem has_any (ga : Nat) (nm : ByteArray) (av : Value) (acc : List S77) (w : World) (hc : w.cell? ⟨ga, 0, none⟩ = some (.string nm)) (A : Option Addr) (c : Nat) (hv : av = .slice A acc.length c) (hC : k77.C w A acc.length acc) (hl : acc.length ≤ 1048576) (b : Bool) (hb : hasName acc nm = b) :
  Calls Tryz.prog 151 #[av, .func (.func 152) #[] #[.pointer (some ⟨ga, 0, none⟩)]] w fun e w' => e = .returned (.bool b) ∧ Below w.heap.size w w' := by
 have hI := idx_any ga nm av acc w hc A c hv hC hl
 rw [hb] at hI
 clear hC hc hv hb
 go_enter Tryz.func151, Tryz.ntmps151
 go_wp2_with fail
 refine hI.mono ?_
 rintro e w1 ⟨⟨z, rfl, hz⟩, hb1⟩
 have hz2 : decide (0 ≤ z) = b := hz.symm
 clear hz
 go_wp2_with fail
 go_ret
 exact ⟨rfl, hb1⟩
end Go.Proofs.YtknfpggiigncpaaGreatDoor.C
end
