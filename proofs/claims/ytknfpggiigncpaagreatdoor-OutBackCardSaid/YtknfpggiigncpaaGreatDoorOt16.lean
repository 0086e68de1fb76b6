/- out.element, walked by hand. -/
import Derived.Test.YtknfpggiigncpaaGreatDoorOt15
import Derived.Test.YtknfpggiigncpaaGreatDoorOt17
import Derived.Test.YtknfpggiigncpaaGreatDoorXOnce
import Derived.Lib.BufferKept
import Derived.Deep.CutBlock
set_option linter.unusedVariables false
set_option linter.unusedSimpArgs false
namespace Go.Proofs.YtknfpggiigncpaaGreatDoor.E
open Go.RowKit P YtknfpggiigncpaaGreatDoorW.PrintLast YtknfpggiigncpaaGreatDoorW.PrintMore
open YtknfpggiigncpaaGreatDoorW.PrintWords
def Em (w0 W : World) (b g : Nat) (v : S24) (A : Option Addr) (c : Nat) (out : List UInt8) (W' : World) : Prop :=
 Lib.IsBuilderF 65 5 w0.heap.size b (Lib.byteCells out) W' ∧ Below w0.heap.size w0 W' ∧ Below w0.heap.size W W' ∧ Lib.OthersKept 5 (some b) W W' ∧ Glob W' ∧ Bv W' g v A c
theorem Em.put {w0 W : World} {b g : Nat} {v : S24} {A : Option Addr} {c : Nat} {out s : List UInt8} {W1 W2 : World} (h : Em w0 W b g v A c out W1) (hg : g ≠ b) (hG : Glob w0)
  (h1 : Lib.IsBuilderF 65 5 w0.heap.size b (Lib.byteCells (out ++ s)) W2) (h2 : Below w0.heap.size W1 W2) (h3 : Lib.OthersKept 5 (some b) W1 W2) : Em w0 W b g v A c (out ++ s) W2 :=
 ⟨h1, h.2.1.trans h2, h.2.2.1.trans h2, h.2.2.2.1.trans h3, hG.below (h.2.1.trans h2), h3 _ _ h.2.2.2.2.2 (fun e => hg (Option.some.inj e)) (fun c fz e => by cases e)⟩
theorem Em.step {w0 W : World} {b g : Nat} {v : S24} {A : Option Addr} {c : Nat} {out : List UInt8} {W1 W2 : World} (h : Em w0 W b g v A c out W1) (hb : Below W1.heap.size W1 W2) : Em w0 W b g v A c out W2 :=
 ⟨builder_below h.1 hb, h.2.1.trans (hb.mono h.2.1.size), h.2.2.1.trans (hb.mono h.2.1.size), Lib.OthersKept.below h.2.2.2.1 hb, h.2.2.2.2.1.below hb, (hb.block g (Array.getElem?_eq_some_iff.1 h.2.2.2.2.2).1).trans h.2.2.2.2.2⟩
theorem Em.mk {w0 W : World} {b : Nat} {v : S24} {A : Option Addr} {c : Nat} {out : List UInt8} (h1 : Lib.IsBuilderF 65 5 w0.heap.size b (Lib.byteCells out) W) (h2 : Below w0.heap.size w0 W) (hG : Glob w0) :
  Em w0 W b W.heap.size v A c out (W.alloc (.cells #[.string v.f0, .string v.f1, .slice A v.f2.length c] 24)) := by
 have hb := below_alloc (Below.refl W.heap.size W) (.cells #[.string v.f0, .string v.f1, .slice A v.f2.length c] 24)
 exact ⟨builder_below h1 hb, h2.trans (hb.mono h2.size), hb.mono h2.size, Lib.OthersKept.below (Lib.OthersKept.refl 5 (some b) W) hb, hG.below (h2.trans (hb.mono h2.size)), cells_al _ _ _⟩
theorem Em.glob {w0 W : World} {b g : Nat} {v : S24} {A : Option Addr} {c : Nat} {out : List UInt8} {W' : World} (h : Em w0 W b g v A c out W') : Glob W' := h.2.2.2.2.1
def ElemAt (w0 : World) (b e : Nat) : Prop :=
 ∀ (v : S24) (A : Option Addr) (c : Nat) (sp : ByteArray) (out : List UInt8) (W : World), allN e v = true → attrB v = false → smallT e v → sp.size ≤ 5000 → k24.C w0 A v.f2.length v.f2 → v.f2.length ≤ c →
  Lib.IsBuilderF 65 5 w0.heap.size b (Lib.byteCells out) W → Below w0.heap.size w0 W → out.length + (elemL v (spOf sp)).length ≤ 1000000000000 →
  Calls Tryz.prog 48 #[.func (.func 47) #[.pointer (some ⟨b, 0, none⟩)] #[], .agg #[.string v.f0, .string v.f1, .slice A v.f2.length c], .string sp] W fun r W' =>
   (∃ x, r = .returned x) ∧ Lib.IsBuilderF 65 5 w0.heap.size b (Lib.byteCells (out ++ elemL v (spOf sp))) W' ∧ Below w0.heap.size W W' ∧ Lib.OthersKept 5 (some b) W W'
def el6T : Bool × List (List Nat × List Nat) := (true, [([], []), ([], []), ([1], [1]), ([2], [2]), ([3], [3]), ([4], [4]), ([5], [5]), ([6], [6]), ([], []), ([8], [8]), ([9], [9]), ([10], [10]), ([11], [11]), ([7, 12], [7, 12]), ([13], [13]), ([0, 14, 12], [0, 14])])
def el6B : List Nat := [0, 0, 2, 6, 14, 30, 62, 126, 0, 256, 768, 1792, 3840, 8190, 16382, 32767]
theorem el6tab : rtab .any (opsOf Tryz.f48 6) = el6T := by kernel_rfl
theorem el6bits : waitsOk el6T.2 el6B = true := by kernel_rfl
set_option maxHeartbeats 8000000 in
set_option maxRecDepth 100000 in
theorem elem_succ (w0 : World) (hG : Glob w0) (b e : Nat) (ih : ElemAt w0 b e) : ElemAt w0 b (e + 1) := by
 intro v A c sp out W hall hat hsm hsp hC hc hB hb hlen
 have hu24 := Tryz.underlying24
 have hbW : b < W.heap.size := by rcases hB with h | h <;> (obtain ⟨_, _, h2, _⟩ := h; exact (Array.getElem?_eq_some_iff.1 h2).1)
 have hgb : W.heap.size ≠ b := by omega
 have hone : oneT v = true := by
  simp only [allN, hat, Bool.false_or, Bool.and_eq_true] at hall
  exact hall.1
 obtain ⟨p1, p2, p3⟩ := one_parts v hone
 have HM := Lib.hid (Em.mk (v := v) (A := A) (c := c) hB hb hG)
 have HC := Lib.hid hC
 have IH := Lib.hid ih
 have HG := Lib.hid hG
 clear hC hB ih hG
 have hsz := hsm.top
 have HK := Lib.hid (fun k hk => (hsm.kid k hk).top : ∀ k ∈ v.f2, sized k)
 have hz1 : (9223372036854775807 < 1 + v.f0.size) = False := eq_false (by have := hsz.1; omega)
 go_enter Tryz.func48, Tryz.ntmps48
 obtain ⟨c0, c1, c2⟩ := HM.out.2.2.2.2.2.cells
 have hcel : ∀ x : List UInt8, 60 :: (v.f0.data.toList ++ x) = ((⟨#[60]⟩ : ByteArray) ++ v.f0).data.toList ++ x := fun x => by rw [B.ba_app]; rfl
 have hN : out.length + 1 + v.f0.size ≤ 1000000100000 := by have := hsz.1; omega
 go_wp2_with fail
 refine (put_calls w0.heap.size b out _ _ HM.out.1 (by rw [ByteArray.size_append]; have := hsz.1; show out.length + (1 + v.f0.size) ≤ _; omega) HM.out.2.1.size).mono ?_
 rintro r W1 ⟨rfl, q1, q2, q3⟩
 have HM1 := Lib.hid (HM.out.put hgb HG.out q1 q2 q3)
 clear q1 q2 q3 c0 c1 c2 HM
 obtain ⟨o1, ho1⟩ : ∃ o1, out ++ ((⟨#[60]⟩ : ByteArray) ++ v.f0).data.toList = o1 := ⟨_, rfl⟩
 have hl1 : o1.length ≤ 1000000100000 := by
  have e := B.sz_list ((⟨#[60]⟩ : ByteArray) ++ v.f0)
  rw [ByteArray.size_append] at e
  have e' : (⟨#[60]⟩ : ByteArray).size = 1 := rfl
  rw [← ho1, List.length_append]
  omega
 rw [ho1] at HM1
 obtain ⟨c0, c1, c2⟩ := HM1.out.2.2.2.2.2.cells
 go_upto_if 15 with fail
 go_cut [] (fun wc => Hid (Em w0 W b W.heap.size v A c (o1 ++ spOf sp) wc))
 case first =>
  by_cases hs0 : sp.size = 0
  ·
   have e1 : (sp.toList != ([] : List UInt8)) = false := by
    rw [B.toL, List.length_eq_zero_iff.1 (show sp.data.toList.length = 0 by rw [← B.sz_list]; exact hs0)]
    rfl
   have e3 : sp.toList.isEmpty = true := by
    rw [B.toL, List.length_eq_zero_iff.1 (show sp.data.toList.length = 0 by rw [← B.sz_list]; exact hs0)]
    rfl
   have e2 : spOf sp = [] := by unfold spOf; rw [if_pos hs0]
   simp only [e3, Bool.not_true]
   go_wp2_with fail
   go_meet
   case rel =>
    rw [e2, List.append_nil]
    exact HM1
  ·
   have e1 : (sp.toList != ([] : List UInt8)) = true := by
    rw [B.toL]
    cases h : sp.data.toList with
    | nil => exact absurd (by rw [B.sz_list, h]; rfl) hs0
    | cons x y => rfl
   have e3 : sp.toList.isEmpty = false := by
    rw [B.toL]
    cases h : sp.data.toList with
    | nil => exact absurd (by rw [B.sz_list, h]; rfl) hs0
    | cons x y => rfl
   have e2 : spOf sp = spaceL sp.data.toList := by unfold spOf; rw [if_neg hs0]
   simp only [e3, Bool.not_false]
   have el := escL_len sp.data.toList
   have es := B.sz_list sp
   have hz2 : (9223372036854775807 < 8 + (escL sp.data.toList).length) = False := eq_false (by omega)
   have hz3 : (9223372036854775807 < 8 + (escL sp.data.toList).length + 1) = False := eq_false (by omega)
   go_wp2_with fail
   refine (esc_calls sp _ hsp HM1.out.2.2.2.2.1).mono ?_
   rintro r W2 ⟨rfl, hb2⟩
   have HM2 := Lib.hid (HM1.out.step hb2)
   clear hb2 c0 c1 c2
   obtain ⟨c0, c1, c2⟩ := HM2.out.2.2.2.2.2.cells
   go_wp2_with fail
   refine (put_calls w0.heap.size b _ _ _ HM2.out.1 (by rw [ByteArray.size_append, ByteArray.size_append]; show o1.length + (8 + (escL sp.data.toList).length + 1) ≤ _; omega) HM2.out.2.1.size).mono ?_
   rintro r W3 ⟨rfl, q1, q2, q3⟩
   have HM3 := Lib.hid (HM2.out.put hgb HG.out q1 q2 q3)
   clear q1 q2 q3 c0 c1 c2
   go_wp2_with fail
   go_meet
   case rel =>
    rw [e2]
    have e5 : (((⟨#[32, 120, 109, 108, 110, 115, 61, 34]⟩ : ByteArray) ++ ⟨(escL sp.data.toList).toArray⟩) ++ (⟨#[34]⟩ : ByteArray)).data.toList = spaceL sp.data.toList := by
     simp only [B.ba_app, spaceL]
     simp
    rw [← e5]
    exact HM3
 case rest =>
  have HM3 := hcut
  obtain ⟨OB, hOB⟩ : ∃ OB, o1 ++ spOf sp = OB := ⟨_, rfl⟩
  rw [hOB] at HM3
  have hOBl : OB.length + (attsL (v.f2.take (attN v.f2))).length ≤ 4000000000000 := by
   rw [← hOB, ← p1, List.length_append]
   have : (attsL v.f2).length + (spOf sp).length ≤ (elemL v (spOf sp)).length := by
    simp only [elemL, formL, List.length_append, List.length_cons]
    omega
   omega
  clear hcut HM1 c0 c1 c2
  obtain ⟨c0, c1, c2⟩ := HM3.out.2.2.2.2.2.cells
  go_upto_block 0 with fail
  go_cut [6] (fun v6 wc2 => ∃ (A' : Option Addr) (c' : Nat), v6 = .slice A' (v.f2.length - attN v.f2) c' ∧ v.f2.length - attN v.f2 ≤ c' ∧ Hid (k24.C w0 A' (v.f2.length - attN v.f2) (v.f2.drop (attN v.f2))) ∧ Hid (Em w0 W b W.heap.size v A c (OB ++ attsL (v.f2.take (attN v.f2))) wc2))
  case first =>
   go_wp2_with fail
   go_loopg [6] (attN v.f2 + 1) (fun kq v6 wr => ∃ (L : List S24) (A' : Option Addr) (c' : Nat) (oo : List UInt8), v6 = .slice A' L.length c' ∧ L.length ≤ c' ∧ Aside0 (kq = attN L + 1) ∧ Hid (k24.C w0 A' L.length L) ∧ Hid (oo ++ attsL (L.take (attN L)) = OB ++ attsL (v.f2.take (attN v.f2))) ∧ Hid (L.drop (attN L) = v.f2.drop (attN v.f2)) ∧ Hid (∀ k ∈ L, sized k) ∧ Hid (Em w0 W b W.heap.size v A c oo wr))
   case atStart =>
    exact ⟨v.f2, A, c, OB, rfl, hc, ⟨rfl⟩, HC.out, rfl, rfl, HK.out, HM3⟩
   case round =>
    obtain ⟨L, A', c', oo, rfl, hLc, HKq, HC', HOO, HDR, HKL, HMr⟩ := hrel
    have hool : oo.length ≤ 4000000000000 := by
     have := congrArg List.length HOO.out
     rw [List.length_append, List.length_append] at this
     omega
    cases L with
    | nil =>
     go_wp2_with fail
     go_meet
     case rel =>
      have e1 : oo = OB ++ attsL (v.f2.take (attN v.f2)) := by have := HOO.out; simpa [attsL] using this
      have e2 : v.f2.drop (attN v.f2) = [] := by have := HDR.out; simpa using this.symm
      have e3 : v.f2.length - attN v.f2 = 0 := by rw [← List.length_drop, e2]; rfl
      rw [← e1, e2, e3]
      exact ⟨A', c', rfl, Nat.zero_le _, C_nil _ _ _, HMr⟩
    | cons x L =>
     obtain ⟨ad, A2, c2x, ea, k0, k1, k2, l2, g2⟩ := at_T24 HC'.out ((0 : Nat) : Int) (by omega) (by simp)
     subst ea
     rw [rd_get (x :: L) 0 (by simp)] at k0 k1 k2 l2 g2
     simp only [List.getElem_cons_zero] at k0 k1 k2 l2 g2
     have ha0 : ad.add 0 = ad := by unfold Addr.add; simp
     simp at k0 k1 k2
     rw [ha0] at k0 k1 k2
     have K0 := k0
     have K1 := k1
     replace k0 := cellBelow HMr.out.2.1 k0
     replace k1 := cellBelow HMr.out.2.1 k1
     replace k2 := cellBelow HMr.out.2.1 k2
     have HG2 := Lib.hid (Kd.C_below g2 HMr.out.2.1)
     clear g2
     have hpos : decide ((0 : Int) < ((L.length + 1 : Nat) : Int)) = true := decide_eq_true (by omega)
     have hpos2 : decide ((0 : Int) < (L.length : Int) + 1) = true := decide_eq_true (by omega)
     cases hax : attrB x with
     | false =>
      go_wp2_with fail
      refine (attr51 x A2 c2x _ HG2.out l2).mono ?_
      rintro r W5 ⟨rfl, hb5⟩
      rw [hax]
      have HM5 := Lib.hid (HMr.out.step hb5)
      clear hb5
      go_wp2_with fail
      go_meet
      case rel =>
       have e0 : attN (x :: L) = 0 := by unfold attN; rw [List.takeWhile_cons_of_neg (by simp [hax])]; rfl
       have e1 : oo = OB ++ attsL (v.f2.take (attN v.f2)) := by have := HOO.out; rw [e0] at this; simpa [attsL] using this
       have e2 : v.f2.drop (attN v.f2) = x :: L := by have := HDR.out; rw [e0] at this; simpa using this.symm
       rw [← e1, e2]
       have e3 : v.f2.length - attN v.f2 = (x :: L).length := by rw [← e2, List.length_drop]
       rw [e3]
       exact ⟨some ad, c', rfl, hLc, HC', HM5⟩
     | true =>
      go_wp2_with fail
      refine (attr51 x A2 c2x _ HG2.out l2).mono ?_
      rintro r W5 ⟨rfl, hb5⟩
      rw [hax]
      replace k0 := cellBelow hb5 k0
      replace k1 := cellBelow hb5 k1
      have HM5 := Lib.hid (HMr.out.step hb5)
      clear hb5 k2 HG2
      have hxs : sized x := HKL.out x List.mem_cons_self
      have hx1 : (1 : Int) ≤ (x.f0.size : Int) := by
       unfold attrB at hax
       have := B.sz_list x.f0
       cases hz : x.f0.data.toList with
       | nil => rw [hz] at hax; cases hax
       | cons p q => rw [hz] at this; simp at this; omega
      have hx1d : decide ((1 : Int) ≤ (x.f0.size : Int)) = true := decide_eq_true hx1
      have hel := escL_len x.f1.data.toList
      have hes := B.sz_list x.f1
      have hs0 := hxs.1
      have hs1 := hxs.2.1
      have hsx : (x.f0.extract 1 x.f0.size).size = x.f0.size - 1 := by rw [ByteArray.size_extract]; omega
      have z1 : (9223372036854775807 < 1 + (x.f0.size - 1)) = False := eq_false (by omega)
      have z2 : (9223372036854775807 < 1 + (x.f0.size - 1) + 2) = False := eq_false (by omega)
      have z3 : (9223372036854775807 < 1 + (x.f0.size - 1) + 2 + (escL x.f1.data.toList).length) = False := eq_false (by omega)
      have z4 : (9223372036854775807 < 1 + (x.f0.size - 1) + 2 + (escL x.f1.data.toList).length + 1) = False := eq_false (by omega)
      go_wp2_with fail
      have HM6 := Lib.hid (HM5.out.step (below_drew (Below.refl _ _)))
      have k0d : W5.drew.cell? ad = some (.string x.f0) := k0
      have k1d : W5.drew.cell? ⟨ad.block, ad.off + 1, none⟩ = some (.string x.f1) := k1
      refine start_ (n := 16) (S := fun w' => w'.cell? ad = some (.string x.f0) ∧ w'.cell? ⟨ad.block, ad.off + 1, none⟩ = some (.string x.f1)) (ds := []) (ms5 0 16) (by kernel_rfl) rfl rfl ⟨k0d, k1d⟩ (fun hHeld => ?_)
      refine with_tabW el6tab el6bits (fun HT_ HW_ => ?_)
      clear k0 k1 HM5
      generalize W5.drew = w6 at HM6 k0d k1d hHeld ⊢
      refine pure_ (i := 0) (N := some 33) (v := ?_) (a' := ?_) (ms5 1 15) rfl rfl (any_of HT_.out (by kernel_rfl)) (fun _ _ _ h => h) (Or.inl ⟨by rfl, ?_⟩) ?_ ?_
      rotate_left
      ·
       intro w'
       go_simp
       with_reducible rfl
      rotate_left
      ·
       go_simp
       rfl
      refine pure_ (i := 1) (N := some 34) (v := ?_) (a' := ?_) (ms5 2 14) rfl rfl (any_of HT_.out (by kernel_rfl)) (fun _ _ _ h => h) (Or.inl ⟨by rfl, ?_⟩) ?_ ?_
      rotate_left
      ·
       intro w'
       go_simp
       with_reducible rfl
      rotate_left
      ·
       go_simp
       rfl
      refine pure_ (i := 2) (N := some 35) (v := ?_) (a' := ?_) (ms5 3 13) rfl rfl (any_of HT_.out (by kernel_rfl)) (fun _ _ _ h => h) (Or.inl ⟨by rfl, ?_⟩) ?_ ?_
      rotate_left
      ·
       intro w'
       go_simp
       with_reducible rfl
      rotate_left
      ·
       go_simp
       rfl
      refine pure_ (i := 3) (N := some 36) (v := ?_) (a' := ?_) (ms5 4 12) rfl rfl (any_of HT_.out (by kernel_rfl)) (fun _ _ _ h => h) (Or.inl ⟨by rfl, ?_⟩) ?_ ?_
      rotate_left
      ·
       intro w'
       go_simp
       with_reducible rfl
      rotate_left
      ·
       go_simp
       rfl
      refine take_ (i := 4) (N := some 37) (v := ?_) (a' := ?_) (ms5 5 11) rfl rfl (take_ofW HT_.out HW_.out (by kernel_rfl)) (fun _ _ _ h => h) (Or.inl ⟨by rfl, ?_⟩) hHeld ?_ ?_
      rotate_left
      ·
       rintro w' ⟨s0, s1⟩
       go_simp
       with_reducible rfl
      rotate_left
      ·
       go_simp
       rfl
      refine pure_ (i := 5) (N := some 38) (v := ?_) (a' := ?_) (ms5 6 10) rfl rfl (any_of HT_.out (by kernel_rfl)) (fun _ _ _ h => h) (Or.inl ⟨by rfl, ?_⟩) ?_ ?_
      rotate_left
      ·
       intro w'
       go_simp
       with_reducible rfl
      rotate_left
      ·
       go_simp
       rfl
      refine pure_ (i := 6) (N := some 39) (v := ?_) (a' := ?_) (ms5 7 9) rfl rfl (any_of HT_.out (by kernel_rfl)) (fun _ _ _ h => h) (Or.inl ⟨by rfl, ?_⟩) ?_ ?_
      rotate_left
      ·
       intro w'
       go_simp
       with_reducible rfl
      rotate_left
      ·
       go_simp
       rfl
      refine pure_ (i := 7) (N := some 40) (v := ?_) (a' := ?_) (ms5 8 8) rfl rfl (any_of HT_.out (by kernel_rfl)) (fun _ _ _ h => h) (Or.inl ⟨by rfl, ?_⟩) ?_ ?_
      rotate_left
      ·
       intro w'
       go_simp
       with_reducible rfl
      rotate_left
      ·
       go_simp
       rfl
      refine pure_ (i := 8) (N := some 41) (v := ?_) (a' := ?_) (ms5 9 7) rfl rfl (any_of HT_.out (by kernel_rfl)) (fun _ _ _ h => h) (Or.inl ⟨by rfl, ?_⟩) ?_ ?_
      rotate_left
      ·
       intro w'
       go_simp
       with_reducible rfl
      rotate_left
      ·
       go_simp
       rfl
      refine pure_ (i := 9) (N := some 42) (v := ?_) (a' := ?_) (ms5 10 6) rfl rfl (any_of HT_.out (by kernel_rfl)) (fun _ _ _ h => h) (Or.inl ⟨by rfl, ?_⟩) ?_ ?_
      rotate_left
      ·
       intro w'
       go_simp
       with_reducible rfl
      rotate_left
      ·
       go_simp
       rfl
      refine pure_ (i := 10) (N := some 43) (v := ?_) (a' := ?_) (ms5 11 5) rfl rfl (any_of HT_.out (by kernel_rfl)) (fun _ _ _ h => h) (Or.inl ⟨by rfl, ?_⟩) ?_ ?_
      rotate_left
      ·
       intro w'
       go_simp
       with_reducible rfl
      rotate_left
      ·
       go_simp
       rfl
      refine take_ (i := 11) (N := some 44) (v := ?_) (a' := ?_) (ms5 12 4) rfl rfl (take_ofW HT_.out HW_.out (by kernel_rfl)) (fun _ _ _ h => h) (Or.inl ⟨by rfl, ?_⟩) hHeld ?_ ?_
      rotate_left
      ·
       rintro w' ⟨s0, s1⟩
       go_simp
       with_reducible rfl
      rotate_left
      ·
       go_simp
       rfl
      refine one_ (i := 12) (N := some 45) (ms5 13 3) rfl rfl (one_of HT_.out (by kernel_rfl)) (by decide) (fun K hK => ?_)
      refine goes_ Tryz.func31 (by kernel_rfl) rfl #[.string x.f1] (by rfl) rfl rfl (by (try simp only [List.map_toArray, List.map_cons, List.map_nil]); first | done | rfl) ?_
      with_reducible refine (esc_calls x.f1 _ hs1 (Em.glob HM6.out)).mono ?_
      rintro r W7 ⟨rfl, hb7⟩
      refine ⟨_, rfl, ?_⟩
      have HM7 := Lib.hid (HM6.out.step hb7)
      refine hK.out _ _ ⟨cellBelow hb7 k0d, cellBelow hb7 k1d⟩ (fun hHeld => ?_)
      clear hK K hb7 k0d k1d HM6
      refine norm_ (a' := ?_) ?_ ?_
      rotate_left
      ·
       show Act.put _ (some 45) _ = _
       go_simp
       rfl
      refine pure_ (i := 13) (N := some 46) (v := ?_) (a' := ?_) (ms5 14 2) rfl rfl (any_of HT_.out (by kernel_rfl)) (fun _ _ _ h => h) (Or.inl ⟨by rfl, ?_⟩) ?_ ?_
      rotate_left
      ·
       intro w'
       go_simp
       with_reducible rfl
      rotate_left
      ·
       go_simp
       rfl
      refine pure_ (i := 14) (N := some 47) (v := ?_) (a' := ?_) (ms5 15 1) rfl rfl (any_of HT_.out (by kernel_rfl)) (fun _ _ _ h => h) (Or.inl ⟨by rfl, ?_⟩) ?_ ?_
      rotate_left
      ·
       intro w'
       go_simp
       with_reducible rfl
      rotate_left
      ·
       go_simp
       rfl
      refine one_ (i := 15) (N := some 48) (ms5 16 0) rfl rfl (one_of HT_.out (by kernel_rfl)) (by decide) (fun K hK => ?_)
      refine call_ 47 #[.pointer (some ⟨b, 0, none⟩), .string ((((((⟨#[32]⟩ : ByteArray) ++ x.f0.extract 1 x.f0.size) ++ (⟨#[61, 34]⟩ : ByteArray)) ++ (⟨(escL x.f1.data.toList).toArray⟩ : ByteArray)) ++ (⟨#[34]⟩ : ByteArray)))] (by rfl) rfl (by have he := enters_ (P := Tryz.prog) Tryz.func47 (by kernel_rfl) rfl #[.pointer (some ⟨b, 0, none⟩), .string ((((((⟨#[32]⟩ : ByteArray) ++ x.f0.extract 1 x.f0.size) ++ (⟨#[61, 34]⟩ : ByteArray)) ++ (⟨(escL x.f1.data.toList).toArray⟩ : ByteArray)) ++ (⟨#[34]⟩ : ByteArray)))] W7; unfold execOp; simp [resolve, Deferred.ofValue, invoke, Act.eval, he]) ?_
      refine (put_calls w0.heap.size b oo _ _ HM7.out.1 (by rw [ByteArray.size_append, ByteArray.size_append, ByteArray.size_append, ByteArray.size_append, hsx]; show oo.length + (1 + (x.f0.size - 1) + 2 + (escL x.f1.data.toList).length + 1) ≤ _; omega) HM7.out.2.1.size).mono ?_
      rintro r W8 ⟨rfl, q1, q2, q3⟩
      refine ⟨_, rfl, ?_⟩
      have HM8 := Lib.hid (HM7.out.put hgb HG.out q1 q2 q3)
      clear q1 q2 q3
      refine hK.out _ _ ⟨cellBelow HM8.out.2.1 K0, cellBelow HM8.out.2.1 K1⟩ (fun hHeld => ?_)
      clear hK K
      refine norm_ (a' := ?_) ?_ ?_
      rotate_left
      ·
       show Act.put _ (some 48) _ = _
       go_simp
       rfl
      refine done_ (done_of HT_.out (by kernel_rfl)) ?_
      have hsf : (((((⟨#[32]⟩ : ByteArray) ++ x.f0.extract 1 x.f0.size) ++ (⟨#[61, 34]⟩ : ByteArray)) ++ (⟨(escL x.f1.data.toList).toArray⟩ : ByteArray)) ++ (⟨#[34]⟩ : ByteArray)).data.toList = attF x := by
       simp only [B.ba_app, attF, atL, B.ext_list]
       rw [List.take_of_length_le (by simp)]
       simp
      rw [hsf] at HM8
      clear HT_ HW_
      have eat : attN (x :: L) = attN L + 1 := by unfold attN; rw [List.takeWhile_cons_of_pos hax]; rfl
      have eoo : (oo ++ attF x) ++ attsL (L.take (attN L)) = OB ++ attsL (v.f2.take (attN v.f2)) := by
       rw [← HOO.out, eat, List.take_succ_cons, attsL, if_pos hax, List.append_assoc]
      have edr : L.drop (attN L) = v.f2.drop (attN v.f2) := by rw [← HDR.out, eat, List.drop_succ_cons]
      have EOO := Lib.hid eoo
      have EDR := Lib.hid edr
      clear eoo edr hsf
      by_cases hc1 : c' = 1
      ·
       subst hc1
       obtain rfl : L = [] := List.length_eq_zero_iff.1 (by simp only [List.length_cons] at hLc; omega)
       go_wp2_with fail
       go_roundg 1
       case measure => have := HKq.out; rw [eat] at this; omega
       case rel => exact ⟨[], some ad, 0, oo ++ attF x, rfl, Nat.le_refl _, ⟨rfl⟩, C_nil _ _ _, EOO, EDR, fun k hk => HKL.out k (List.mem_cons_of_mem _ hk), HM8⟩
      ·
       go_wp2_with fail
       go_roundg (attN L + 1)
       case measure => have := HKq.out; rw [eat] at this; omega
       case rel => exact ⟨L, _, c' - 1, oo ++ attF x, rfl, by simp only [List.length_cons] at hLc; omega, ⟨rfl⟩, C_drop HC'.out 1 (by simp), EOO, EDR, fun k hk => HKL.out k (List.mem_cons_of_mem _ hk), HM8⟩
  case rest =>
   obtain ⟨A', c', rfl, hjc, HC', HM4⟩ := hcut
   obtain ⟨O4, hO4⟩ : ∃ O4, OB ++ attsL (v.f2.take (attN v.f2)) = O4 := ⟨_, rfl⟩
   have hO4l : O4.length ≤ 4000000000000 := by rw [← hO4, List.length_append]; exact hOBl
   rw [hO4] at HM4
   clear c0 c1 c2 HM3
   obtain ⟨c0, c1, c2⟩ := HM4.out.2.2.2.2.2.cells
   have hef := escL_len v.f1.data.toList
   have hes := B.sz_list v.f1
   have hs1 := hsz.2.1
   have hz5 : (9223372036854775807 < 1 + (escL v.f1.data.toList).length) = False := eq_false (by omega)
   go_wp2_with fail
   refine (esc_calls v.f1 _ hs1 (Em.glob HM4.out)).mono ?_
   rintro r W5 ⟨rfl, hb5⟩
   have HM5 := Lib.hid (HM4.out.step hb5)
   clear hb5 c0 c1 c2
   go_wp2_with fail
   refine (put_calls w0.heap.size b _ _ _ HM5.out.1 (by rw [ByteArray.size_append]; show O4.length + (1 + (escL v.f1.data.toList).length) ≤ _; omega) HM5.out.2.1.size).mono ?_
   rintro r W6 ⟨rfl, q1, q2, q3⟩
   have HM6 := Lib.hid (HM5.out.put hgb HG.out q1 q2 q3)
   clear q1 q2 q3
   obtain ⟨O6, hO6⟩ : ∃ O6, O4 ++ ((⟨#[62]⟩ : ByteArray) ++ (⟨(escL v.f1.data.toList).toArray⟩ : ByteArray)).data.toList = O6 := ⟨_, rfl⟩
   rw [hO6] at HM6
   obtain ⟨L, hL⟩ : ∃ L, v.f2.drop (attN v.f2) = L := ⟨_, rfl⟩
   have hLl : v.f2.length - attN v.f2 = L.length := by rw [← hL, List.length_drop]
   rw [hLl] at HC' hjc ⊢
   rw [hL] at HC'
   have hLs : ∀ k ∈ L, attrB k = false ∧ allN e k = true ∧ smallT e k := fun k hk => by
    have hkm : k ∈ v.f2 := List.mem_of_mem_drop (by rw [hL]; exact hk)
    refine ⟨p3 k (by rw [hL]; exact hk), ?_, hsm.kid k hkm⟩
    simp only [allN, Bool.and_eq_true, List.all_eq_true] at hall
    exact hall.2 k hkm
   have HLS := Lib.hid hLs
   have hLi : (innerL L).length ≤ 1000000000000 := by
    have h1 : innerL L = innerL v.f2 := by rw [p2, hL]
    have : (innerL v.f2).length ≤ (elemL v (spOf sp)).length := by
     simp only [elemL, formL, List.length_append, List.length_cons]
     omega
    rw [h1]; omega
   have hfin : O6 ++ innerL L ++ (((⟨#[60, 47]⟩ : ByteArray) ++ v.f0) ++ (⟨#[62]⟩ : ByteArray)).data.toList = out ++ elemL v (spOf sp) := by
    rw [← hO6, ← hO4, ← hOB, ← ho1, ← hL, ← p1, ← p2]
    simp only [B.ba_app, elemL, formL]
    simp
   have hO6l : O6.length + (innerL L).length ≤ 1000000000000 := by
    have := congrArg List.length hfin
    simp only [List.length_append] at this
    omega
   have hL1 : L.length ≤ 1000000 := by have := hsz.2.2; omega
   clear hLs
   go_wp2_with fail
   go_loopg [59] (L.length + 1) (fun kq v59 wr => ∃ i : Nat, v59 = .int .i64 i ∧ i ≤ L.length ∧ Aside0 (kq + i = L.length + 1) ∧ Hid (Em w0 W b W.heap.size v A c (O6 ++ innerL (L.take i)) wr))
   case atStart =>
    refine ⟨0, rfl, Nat.zero_le _, ⟨rfl⟩, ?_⟩
    rw [List.take_zero, show innerL [] = [] by simp [innerL], List.append_nil]
    exact HM6
   case round =>
    obtain ⟨i, rfl, hi, HKq, HMr⟩ := hrel
    have hil0 : (innerL (L.take i)).length ≤ 1000000000000 := by
     have h1 : innerL L = innerL (L.take i) ++ innerL (L.drop i) := by rw [← innerL_append, List.take_append_drop]
     rw [h1, List.length_append] at hLi
     omega
    by_cases hlt : i < L.length
    ·
     obtain ⟨ad, A2, c2x, ea, k0, k1, k2, l2, g2⟩ := at_T24 HC'.out (i : Int) (by omega) (by omega)
     subst ea
     simp at k0 k1 k2
     replace k0 := cellBelow HMr.out.2.1 k0
     replace k1 := cellBelow HMr.out.2.1 k1
     replace k2 := cellBelow HMr.out.2.1 k2
     have hmem : rd_T24 L (i : Int) ∈ L := by rw [rd_get L i hlt]; exact List.getElem_mem hlt
     obtain ⟨hn1, hn2, hn3⟩ := HLS.out _ hmem
     have htk : innerL (L.take (i + 1)) = innerL (L.take i) ++ elemL (rd_T24 L (i : Int)) [] := by
      rw [take_succ_at L i hlt, innerL_append, ← rd_get L i hlt, innerL_one _ hn1]
     have hil1 : (innerL (L.take (i + 1))).length ≤ (innerL L).length := by
      have h1 : innerL L = innerL (L.take (i + 1)) ++ innerL (L.drop (i + 1)) := by rw [← innerL_append, List.take_append_drop]
      have h2 := congrArg List.length h1
      rw [List.length_append] at h2
      omega
     have HMa := Lib.hid (HMr.out.step (below_alloc (Below.refl _ _) (.cells #[.string (rd_T24 L (i : Int)).f0, .string (rd_T24 L (i : Int)).f1, .slice A2 (rd_T24 L (i : Int)).f2.length c2x] 24)))
     have HCall := Lib.hid (IH.out (rd_T24 L (i : Int)) A2 c2x ⟨#[]⟩ (O6 ++ innerL (L.take i)) (wr.alloc (.cells #[.string (rd_T24 L (i : Int)).f0, .string (rd_T24 L (i : Int)).f1, .slice A2 (rd_T24 L (i : Int)).f2.length c2x] 24)) hn2 hn1 hn3 (Nat.zero_le _) g2 l2 HMa.out.1 HMa.out.2.1 (by
      have h2 := congrArg List.length htk
      rw [List.length_append] at h2
      rw [show spOf ⟨#[]⟩ = [] from rfl, List.length_append]
      omega))
     have HTK := Lib.hid htk
     clear htk hn2 hn3 g2 hmem
     generalize rd_T24 L (i : Int) = el at *
     go_wp2_with fail
     refine HCall.out.mono ?_
     rintro r W8 ⟨⟨rx, rfl⟩, q1, q2, q3⟩
     have HM8 := Lib.hid (HMa.out.put hgb HG.out q1 q2 q3)
     rw [show spOf ⟨#[]⟩ = [] from rfl, List.append_assoc, ← HTK.out] at HM8
     clear q1 q2 q3 k0 k1 k2
     go_wp2_with fail
     go_roundg (L.length - i)
     case measure => have := HKq.out; omega
     case rel => exact ⟨i + 1, by go_num, by omega, ⟨by omega⟩, HM8⟩
    ·
     have hie : i = L.length := by omega
     subst hie
     rw [List.take_length] at HMr
     obtain ⟨c0, c1, c2⟩ := HMr.out.2.2.2.2.2.cells
     have hz6 : (9223372036854775807 < 2 + v.f0.size) = False := eq_false (by have := hsz.1; omega)
     have hz7 : (9223372036854775807 < 2 + v.f0.size + 1) = False := eq_false (by have := hsz.1; omega)
     go_wp2_with fail
     refine (put_calls w0.heap.size b _ _ _ HMr.out.1 (by rw [ByteArray.size_append, ByteArray.size_append, List.length_append]; show O6.length + (innerL L).length + (2 + v.f0.size + 1) ≤ _; have := hsz.1; omega) HMr.out.2.1.size).mono ?_
     rintro r W8 ⟨rfl, q1, q2, q3⟩
     have HM8 := Lib.hid (HMr.out.put hgb HG.out q1 q2 q3)
     clear q1 q2 q3
     go_wp2_with fail
     go_end0
     refine ⟨⟨_, rfl⟩, ?_, HM8.out.2.2.1, HM8.out.2.2.2.1⟩
     rw [← hfin]
     exact HM8.out.1
theorem elem_any (w0 : World) (hG : Glob w0) (b : Nat) : ∀ e, ElemAt w0 b e := by
 intro e
 induction e with
 | zero =>
  intro v A c sp out W hall hat
  simp only [allN] at hall
  rw [hall] at hat
  cases hat
 | succ e ih => exact elem_succ w0 hG b e ih
end Go.Proofs.YtknfpggiigncpaaGreatDoor.E
