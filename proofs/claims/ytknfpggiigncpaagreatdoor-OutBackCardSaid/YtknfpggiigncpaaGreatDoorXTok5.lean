/- token's attributes: their contract. -/
import Derived.Test.YtknfpggiigncpaaGreatDoorXTok4
import Derived.Test.YtknfpggiigncpaaGreatDoorXReg
set_option linter.unusedVariables false
set_option linter.unusedSimpArgs false
namespace Go.Proofs.YtknfpggiigncpaaGreatDoor.C
open Go.RowKit P A YtknfpggiigncpaaGreatDoorW.PrintWords YtknfpggiigncpaaGreatDoorW.PrintLast YtknfpggiigncpaaGreatDoorW.PrintMore
theorem info77 : (Tryz.prog.info? 77).map (fun i => (i.zero, i.size, i.bytes)) = some (some (.agg #[(.string ⟨#[]⟩), (.string ⟨#[]⟩)]), 2, 32) := by kernel_rfl
def headLet : List UInt8 → Bool
 | [] => false
 | b :: _ => isLet b
def badQ (l : List UInt8) : Prop := l ≠ [39] ∧ l ≠ [34]
instance (l : List UInt8) : Decidable (badQ l) := by unfold badQ; infer_instance
def p3T (s : ByteArray) (p2 : Nat) : Nat := p2 + blankN (rs s p2)
def badV (v : List UInt8) (acc : List S77) (nm : List UInt8) : Bool := Lib.contains v [60] || acc.length == 20 || hasName acc ⟨nm.toArray⟩
def attr1T (s : ByteArray) (q : Nat) (acc : List S77) : Except (Nat × Int) (S77 × Nat) :=
 match nameT s q with
 | .error x => .error x
 | .ok (nm, p2) =>
  match mustT s (p3T s p2) [61] with
  | .error x => .error x
  | .ok p4 =>
   if badQ ((rs s (p3T s p4)).take 1) then .error (p3T s p4, 21)
   else
    match untilT s (p3T s p4 + 1) ((rs s (p3T s p4)).take 1) with
    | .error x => .error x
    | .ok (v, p7) =>
     if badV v acc nm = true then .error (q, 21)
     else
      match plainT v (p3T s p4 + 1) with
      | .error x => .error x
      | .ok x => .ok (⟨⟨nm.toArray⟩, ⟨x.toArray⟩⟩, p7)
def attrsT (s : ByteArray) : Nat → Nat → List S77 → Except (Nat × Int) (List S77 × Nat)
 | 0, p, acc => .ok (acc, p)
 | f + 1, p, acc =>
  if (decide (0 < blankN (rs s p)) && headLet (rs s (p3T s p))) = true then
   match attr1T s (p3T s p) acc with
   | .error x => .error x
   | .ok (a, p7) => attrsT s f p7 (acc ++ [a])
  else .ok (acc, p3T s p)
section
variable {s : ByteArray} {q p2 p4 p7 : Nat} {acc : List S77} {nm v x : List UInt8} {z : Nat × Int}
theorem a_e1 (h1 : nameT s q = .error z) : attr1T s q acc = .error z := by unfold attr1T; rw [h1]
theorem a_e2 (h1 : nameT s q = .ok (nm, p2)) (h2 : mustT s (p3T s p2) [61] = .error z) : attr1T s q acc = .error z := by unfold attr1T; simp only [h1, h2]
theorem a_e3 (h1 : nameT s q = .ok (nm, p2)) (h2 : mustT s (p3T s p2) [61] = .ok p4) (h3 : badQ ((rs s (p3T s p4)).take 1)) : attr1T s q acc = .error (p3T s p4, 21) := by unfold attr1T; simp only [h1, h2]; rw [if_pos h3]
theorem a_e4 (h1 : nameT s q = .ok (nm, p2)) (h2 : mustT s (p3T s p2) [61] = .ok p4) (h3 : ¬ badQ ((rs s (p3T s p4)).take 1)) (h4 : untilT s (p3T s p4 + 1) ((rs s (p3T s p4)).take 1) = .error z) : attr1T s q acc = .error z := by unfold attr1T; simp only [h1, h2]; rw [if_neg h3]; simp only [h4]
theorem a_e5 (h1 : nameT s q = .ok (nm, p2)) (h2 : mustT s (p3T s p2) [61] = .ok p4) (h3 : ¬ badQ ((rs s (p3T s p4)).take 1)) (h4 : untilT s (p3T s p4 + 1) ((rs s (p3T s p4)).take 1) = .ok (v, p7)) (h5 : badV v acc nm = true) : attr1T s q acc = .error (q, 21) := by unfold attr1T; simp only [h1, h2]; rw [if_neg h3]; simp only [h4]; rw [if_pos h5]
theorem a_e6 (h1 : nameT s q = .ok (nm, p2)) (h2 : mustT s (p3T s p2) [61] = .ok p4) (h3 : ¬ badQ ((rs s (p3T s p4)).take 1)) (h4 : untilT s (p3T s p4 + 1) ((rs s (p3T s p4)).take 1) = .ok (v, p7)) (h5 : badV v acc nm = false) (h6 : plainT v (p3T s p4 + 1) = .error z) : attr1T s q acc = .error z := by unfold attr1T; simp only [h1, h2]; rw [if_neg h3]; simp only [h4]; rw [if_neg (by rw [h5]; simp)]; simp only [h6]
theorem a_ok (h1 : nameT s q = .ok (nm, p2)) (h2 : mustT s (p3T s p2) [61] = .ok p4) (h3 : ¬ badQ ((rs s (p3T s p4)).take 1)) (h4 : untilT s (p3T s p4 + 1) ((rs s (p3T s p4)).take 1) = .ok (v, p7)) (h5 : badV v acc nm = false) (h6 : plainT v (p3T s p4 + 1) = .ok x) : attr1T s q acc = .ok (⟨⟨nm.toArray⟩, ⟨x.toArray⟩⟩, p7) := by unfold attr1T; simp only [h1, h2]; rw [if_neg h3]; simp only [h4]; rw [if_neg (by rw [h5]; simp)]; simp only [h6]
end
def AttrRes (g : Nat) (s : ByteArray) (ov : Value) (w : World) (r : Except (Nat × Int) (List S77 × Nat)) (e : Ending) (w' : World) : Prop :=
 match r with
 | .ok (l, q) => ∃ av, e = .returned av ∧ Rd g s q ov w' ∧ Ch g w w' ∧ k77.R 77 w' w.heap.size (fun _ => True) av l
 | .error (a, er) => Thrown e a er ∧ Below g w w'
theorem head_at (s : ByteArray) (q : Nat) (h : q < s.size) : headLet (rs s q) = isLet (s[q]'h) := by
 unfold rs
 rw [List.drop_eq_getElem_cons (by rw [← Lib.size_eq]; exact h)]
 rfl
theorem head_end (s : ByteArray) (q : Nat) (h : ¬ q < s.size) : headLet (rs s q) = false := by
 unfold rs
 rw [List.drop_of_length_le (by rw [← Lib.size_eq]; omega)]
 rfl
theorem R_ch {g N : Nat} {w w1 : World} {ok : Nat → Prop} {v : Value} {xs : List S77} (h : k77.R 77 w N ok v xs) (hN : g < N) (hc : Ch g w w1) : k77.R 77 w1 N ok v xs :=
 Kd.R_mono (Kd.R_keep (Kd.R_bound h) hc.2 (fun k hk => by have := hk.2.1; omega)) (fun _ h => h.1)
theorem ch_drew (g : Nat) (w : World) : Ch g w w.drew := ⟨(Below.refl _ _).drew, keep_drew (KeepBut.refl _ _ _)⟩
theorem cells_alloc (w : World) (cs : Array Value) (t : TypeId) : (w.alloc (.cells cs t)).heap[w.heap.size]? = some (.cells cs t (0, 0)) := by
 show (w.heap.push _)[w.heap.size]? = _
 simp
set_option maxHeartbeats 16000000 in
set_option maxRecDepth 100000 in
theorem attrs_any (g : Nat) (s : ByteArray) (p : Nat) (ov : Value) (w : World) (h : Rd g s p ov w) (hG : Gl g w) (hp : p ≤ s.size) (hs : s.size ≤ 1048576) :
  Calls Tryz.prog 131 #[.pointer (some ⟨g, 0, none⟩)] w (AttrRes g s ov w (attrsT s (s.size + 1 - p) p [])) := by
 have hlt := h.lt
 have H := Lib.hid h
 obtain ⟨R, hR⟩ : ∃ R, attrsT s (s.size + 1 - p) p [] = R := ⟨_, rfl⟩
 rw [hR]
 have HR := Lib.hid hR
 clear h hR
 go_enter Tryz.func131, Tryz.ntmps131
 go_wp2_with fail
 go_loopg [3] (s.size + 1 - p) (fun kq v3 wr => ∃ (pp : Nat) (acc : List S77), Aside0 (pp ≤ s.size) ∧ Aside0 (s.size < pp + kq) ∧ Aside0 (acc.length ≤ pp) ∧ Aside0 (attrsT s kq pp acc = R) ∧ Aside0 (Rd g s pp ov wr) ∧ Aside0 (Ch g w wr) ∧ Aside0 (k77.R 77 wr w.heap.size (fun _ => True) v3 acc))
 case atStart => exact ⟨p, [], ⟨hp⟩, ⟨by omega⟩, ⟨Nat.zero_le _⟩, ⟨HR.out⟩, ⟨H.out⟩, ⟨Ch.refl _ _⟩, ⟨Kd.R_nil _ _ _ _ _⟩⟩
 case round =>
  obtain ⟨pp, acc, HP, HK, HL, HT, HRd, HC, HA⟩ := hrel
  cases gk with
  | zero => exact absurd HK.out (by have := HP.out; omega)
  | succ kk =>
   have hppl := HP.out
   have hbl := blankN_le (rs s pp)
   rw [rs_len] at hbl
   obtain ⟨n, hn⟩ : ∃ n, blankN (rs s pp) = n := ⟨_, rfl⟩
   rw [hn] at hbl
   have hT := HT.out
   simp only [attrsT] at hT
   unfold p3T at hT
   rw [hn] at hT
   have hGw : Gl g wr.drew := hG.ch HC.out.1.drew
   have hRw : Rd g s pp ov wr.drew := HRd.out
   have hCd : Ch g w wr.drew := HC.out.trans (ch_drew g wr)
   obtain ⟨A, cap, hu3⟩ := Kd.R_slice HA.out
   subst hu3
   obtain ⟨q, hqq⟩ : ∃ q, pp + n = q := ⟨_, rfl⟩
   have hBk := blanks_any g s pp ov _ hRw hGw hppl hs n hn
   rw [hqq] at hBk hT
   have hqs : q ≤ s.size := by omega
   by_cases hn0 : 0 < n
   ·
    have hd0 : decide (0 < n) = true := decide_eq_true hn0
    by_cases hq : q < s.size
    ·
     have hqz : decide ((q : Int) < s.size) = true := by simp; omega
     cases hL : isLet (s[q]'hq) with
     | false =>
      have hR : Except.ok (acc, q) = R := by
       rw [← hT, hd0, head_at s q hq, hL]
       rfl
      subst hR
      clear hT HT hn0
      go_wp2_with fail
      refine wp_region_head (by kernel_rfl) (by kernel_rfl) rfl rfl ?_
      change Oper.wp _ _ _ (World.drew _) _ _
      go_simp
      refine hBk.mono ?_
      rintro e w1 hr
      obtain ⟨rfl, hR1, hC1⟩ := hr.ok
      rw [hd0]
      dsimp only
      have c0 := hR1.at_ 0
      have c1 := hR1.at_ 1
      simp at c0 c1
      repeat (go_big_quiet_step ((go_at_call 149; exact Calls.quiet_of (letter_any _ false hL _))))
      refine wpQuiet_nil ?_
      intro n1
      clear c0 c1
      go_wp2_with fail
      refine bodyPost_ret (results_tmp rfl _ _ _) rfl ?_
      have hCC := hCd.trans hC1
      exact ⟨_, rfl, hR1.drewN _, hCC.drewN _, R_ch HA.out hlt ((ch_drew g wr).trans hC1 |>.drewN _)⟩
     | true =>
      have hT2 : (match attr1T s q acc with | .error x => .error x | .ok (a, p7) => attrsT s kk p7 (acc ++ [a])) = R := by
       rw [← hT, if_pos (by rw [hd0, head_at s q hq, hL]; rfl)]
      clear hT HT
      go_wp2_with fail
      refine wp_region_head (by kernel_rfl) (by kernel_rfl) rfl rfl ?_
      change Oper.wp _ _ _ (World.drew _) _ _
      go_simp
      refine hBk.mono ?_
      rintro e w1 hr
      obtain ⟨rfl, hR1, hC1⟩ := hr.ok
      rw [hd0]
      dsimp only
      have c0 := hR1.at_ 0
      have c1 := hR1.at_ 1
      simp at c0 c1
      repeat (go_big_quiet_step ((go_at_call 149; exact Calls.quiet_of (letter_any _ true hL _))))
      refine wpQuiet_nil ?_
      intro n1
      have hR1d := hR1.drewN n1
      have hC1d : Ch g w (w1.drewN n1) := (hCd.trans hC1).drewN n1
      have hA1 := R_ch HA.out hlt (((ch_drew g wr).trans hC1).drewN n1)
      clear hC1 c0
      have HR1 := Lib.hid hR1d
      have HA1 := Lib.hid hA1
      clear hR1 hR1d hA1
      go_wp2_with fail
      have hN := name_any g s q ov (w1.drewN n1) HR1.out (by omega) hs
      cases hnm : nameT s q with
      | error x =>
       obtain ⟨a, er⟩ := x
       rw [nameR_error hnm] at hN
       refine hN.mono ?_
       rintro e w2 hr
       obtain ⟨rfl, hb⟩ := hr.error
       have hR : Except.error (a, er) = R := by rw [← hT2, a_e1 hnm]
       subst hR
       go_wp2_with fail
       exact ⟨rfl, rfl, hC1d.1.trans hb⟩
      | ok x =>
       obtain ⟨nm, p2⟩ := x
       rw [nameR_ok hnm] at hN
       have hle2 := nameT_le hnm (by omega)
       obtain ⟨y, rfl⟩ : ∃ y : ByteArray, y.data.toList = nm := ⟨⟨nm.toArray⟩, rfl⟩
       rw [show strV y.data.toList = .string y from rfl] at hN
       refine hN.mono ?_
       rintro e w2 hr
       obtain ⟨rfl, hR2, hC2⟩ := hr.ok
       have hR2a := rd_alloc hR2 (.cells #[.string y, .string ⟨#[]⟩] 77)
       have hC2a := ch_alloc hC2 hR2.lt (.cells #[.string y, .string ⟨#[]⟩] 77)
       have hG2a := hG.ch (hC1d.trans hC2a).1
       have hblk := cells_alloc w2 #[.string y, .string ⟨#[]⟩] 77
       have hga : g < w2.heap.size := hR2.lt
       have hgN : w.heap.size ≤ w2.heap.size := Nat.le_trans hC1d.2.1 hC2.2.1
       have HB2 := Lib.hid hblk
       have HA1b := Lib.hid (show k77.R 77 (w1.drewN n1) w.heap.size (fun k => k < w2.heap.size) (.slice A acc.length cap) acc from Kd.R_mono (Kd.R_bound HA1.out) (fun k hk => Nat.lt_of_lt_of_le hk.2.2.1 hC2.2.1))
       have HR2 := Lib.hid hR2a
       clear hblk hR2a hR2 hC2 hN c1
       go_wp2_with fail
       have hb3 := blankN_le (rs s p2)
       rw [rs_len] at hb3
       obtain ⟨n3, hn3⟩ : ∃ n, blankN (rs s p2) = n := ⟨_, rfl⟩
       rw [hn3] at hb3
       obtain ⟨p3, hp3⟩ : ∃ p3, p2 + n3 = p3 := ⟨_, rfl⟩
       have hp3T : p3T s p2 = p3 := by unfold p3T; rw [hn3]; exact hp3
       have hBk3 := blanks_any g s p2 ov _ HR2.out hG2a (by omega) hs n3 hn3
       rw [hp3] at hBk3
       refine hBk3.mono ?_
       rintro e w3 hr
       obtain ⟨rfl, hR3, hC3⟩ := hr.ok
       clear hBk3
       have hC03 := hC1d.trans (hC2a.trans hC3)
       have HR3 := Lib.hid hR3
       clear hR3
       go_wp2_with fail
       have hM := must_any g s p3 ov ⟨#[61]⟩ w3 HR3.out (by omega) hs
       rw [show (⟨#[61]⟩ : ByteArray).data.toList = [61] from rfl] at hM
       cases hmu : mustT s p3 [61] with
       | error x =>
        obtain ⟨a, er⟩ := x
        rw [mustR_error hmu] at hM
        rw [← hp3T] at hmu
        refine hM.mono ?_
        rintro e w4 hr
        obtain ⟨rfl, hb⟩ := hr.error
        have hR : Except.error (a, er) = R := by rw [← hT2, a_e2 hnm hmu]
        subst hR
        go_wp2_with fail
        exact ⟨rfl, rfl, hC03.1.trans hb⟩
       | ok p4 =>
        have hle4 := mustT_le hmu (by omega)
        rw [mustR_ok hmu] at hM
        rw [← hp3T] at hmu
        refine hM.mono ?_
        rintro e w4 hr
        obtain ⟨rfl, hR4, hC4⟩ := hr.ok
        clear hM
        have hC04 := hC03.trans hC4
        have hG4 := hG.ch hC04.1
        have HR4 := Lib.hid hR4
        clear hR4
        go_wp2_with fail
        have hb5 := blankN_le (rs s p4)
        rw [rs_len] at hb5
        obtain ⟨n5, hn5⟩ : ∃ n, blankN (rs s p4) = n := ⟨_, rfl⟩
        rw [hn5] at hb5
        obtain ⟨p5, hp5⟩ : ∃ p5, p4 + n5 = p5 := ⟨_, rfl⟩
        have hp5T : p3T s p4 = p5 := by unfold p3T; rw [hn5]; exact hp5
        have hBk5 := blanks_any g s p4 ov _ HR4.out hG4 (by omega) hs n5 hn5
        rw [hp5] at hBk5
        refine hBk5.mono ?_
        rintro e w5 hr
        obtain ⟨rfl, hR5, hC5⟩ := hr.ok
        clear hBk5
        have hC05 := hC04.trans hC5
        have c0 := hR5.at_ 0
        have c1 := hR5.at_ 1
        simp at c0 c1
        have HR5 := Lib.hid hR5
        have hp5s : p5 ≤ s.size := by omega
        clear hR5
        go_wp2_with fail
        have hw1 : IntKind.i64.wrap ((p5 : Int) + 1) = (p5 : Int) + 1 := IntWalk.i64_in _ (by omega)
        have hm1 : min (p5 : Int) (s.size : Int) = p5 := by omega
        obtain ⟨e6, he6⟩ : ∃ e, min (p5 + 1) s.size = e := ⟨_, rfl⟩
        have hm2 : min ((p5 : Int) + 1) (s.size : Int) = (e6 : Int) := by omega
        have hsl : ∀ w : World, (Instr.slice 9 (.string s) (some (.int .i64 (p5 : Int))) (some (.int .i64 (e6 : Int))) none).run Tryz.prog w = .ok (.string (s.extract p5 e6)) w := fun w => slice_two s (p5 : Int) (e6 : Int) p5 e6 rfl rfl (by omega) (by omega) w
        have hQl : (s.extract p5 e6).data.toList = (rs s p5).take 1 := by
         rw [Lib.extract_data, ← he6]
         unfold rs
         rw [List.take_eq_take_iff, List.length_drop, ← Lib.size_eq]
         omega
        have HQl := Lib.hid hQl
        clear hQl
        generalize s.extract p5 e6 = Q at *
        by_cases h39 : (rs s p5).take 1 = [39]
        ·
         have hQ : Q = ⟨#[39]⟩ := by
          apply ByteArray.ext
          apply Array.toList_inj.1
          rw [HQl.out, h39]
         subst hQ
         have hps : p5 < s.size := by
          have := congrArg List.length h39
          rw [List.length_take, rs_len] at this
          simp at this
          omega
         have hnb : ¬ badQ ((rs s (p3T s p4)).take 1) := by
          rw [hp5T, h39]
          rintro ⟨x1, x2⟩
          first | exact x1 rfl | exact x2 rfl
         have hcc : ((rs s (p3T s p4)).take 1) = [39] := by rw [hp5T]; exact h39
         have f1 := HR5.out.free 1
         clear h39 HQl
         refine wp_region_quiet_lit (by kernel_rfl) (by kernel_rfl) ?_
         repeat (go_big_quiet_step (fail))
         refine wpQuiet_nil ?_
         intro _ hw6
         obtain ⟨nq6, hw6'⟩ := hw6
         subst hw6'
         have hR6 : Rd g s (p5 + 1) ov ((w5.drewN nq6).setCell ⟨g, 1, none⟩ (.int .i64 ((p5 + 1 : Nat) : Int))) := (HR5.out.drewN nq6).put (p5 + 1)
         have hC06 : Ch g w ((w5.drewN nq6).setCell ⟨g, 1, none⟩ (.int .i64 ((p5 + 1 : Nat) : Int))) := (hC05.drewN nq6).set 1 _
         have hG6 := hG.ch hC06.1
         have hU := until_any g s (p5 + 1) ov ⟨#[39]⟩ _ hR6 hG6 (by omega) hs (by decide)
         rw [show (⟨#[39]⟩ : ByteArray).data.toList = [39] from rfl] at hU
         have HR6 := Lib.hid hR6
         clear hR6 c0
         have d1 := HR6.out.at_ 1
         simp at d1
         go_wp2_with fail
         cases hut : untilT s (p5 + 1) [39] with
         | error x =>
          obtain ⟨a, er⟩ := x
          rw [untilR_error hut] at hU
          refine hU.mono ?_
          rintro e w7 hr
          obtain ⟨rfl, hb⟩ := hr.error
          have hR : Except.error (a, er) = R := by rw [← hT2, a_e4 hnm hmu hnb (by rw [hcc, hp5T]; exact hut)]
          subst hR
          go_wp2_with fail
          exact ⟨rfl, rfl, hC06.1.trans hb⟩
         | ok x =>
          obtain ⟨v, p7⟩ := x
          have hle7 := untilT_le hut (by omega)
          rw [untilR_ok hut] at hU
          obtain ⟨z, rfl⟩ : ∃ z : ByteArray, z.data.toList = v := ⟨⟨v.toArray⟩, rfl⟩
          have hzs : z.size ≤ 1048576 := by rw [Lib.size_eq]; omega
          rw [show strV z.data.toList = .string z from rfl] at hU
          refine hU.mono ?_
          rintro e w7 hr
          obtain ⟨rfl, hR7, hC7⟩ := hr.ok
          have hutT : untilT s (p3T s p4 + 1) ((rs s (p3T s p4)).take 1) = .ok (z.data.toList, p7) := by rw [hcc, hp5T]; exact hut
          clear hU hut
          have hC07 := hC06.trans hC7
          have hG7 := hG.ch hC07.1
          have hA7 : k77.R 77 w7 w.heap.size (fun k => k < w2.heap.size) (.slice A acc.length cap) acc := R_ch HA1b.out hlt (hC2a.trans (hC3.trans (hC4.trans (hC5.trans (((Ch.refl g w5).drewN nq6).set 1 _ |>.trans hC7)))))
          have hB7 : w7.heap[w2.heap.size]? = some (.cells #[.string y, .string ⟨#[]⟩] 77 (0, 0)) := (hC3.trans (hC4.trans (hC5.trans (((Ch.refl g w5).drewN nq6).set 1 _ |>.trans hC7)))).2.blk HB2.out (Nat.ne_of_gt hga) (by simp)
          have hcy : w7.cell? ⟨w2.heap.size, 0, none⟩ = some (.string y) := (cell_of_row _ _ 0 _ _ _ hB7).trans rfl
          have hCon := fun b hb => contains_any z ⟨#[60]⟩ _ [60] b w7 hG7.glob hzs rfl rfl hb
          have HR7 := Lib.hid hR7
          have HA7 := Lib.hid hA7
          have HB7 := Lib.hid hB7
          clear hR7 hA7 hB7 d1 c1
          go_wp2_with fail
          cases hct : Lib.contains z.data.toList [60] with
          | true =>
           refine (hCon true hct).mono ?_
           rintro e w8 ⟨rfl, rfl⟩
           have hR : Except.error (q, 21) = R := by rw [← hT2, a_e5 hnm hmu hnb hutT (by unfold badV; rw [hct]; rfl)]
           subst hR
           go_wp2_with fail
           refine (fail_any q _).mono ?_
           rintro e w9 ⟨he, rfl⟩
           obtain rfl : e = _ := he
           go_wp2_with fail
           exact ⟨rfl, rfl, hC07.1⟩
          | false =>
           refine (hCon false hct).mono ?_
           rintro e w8 ⟨rfl, rfl⟩
           clear hCon
           by_cases h20 : acc.length = 20
           ·
            have hz20 : ((acc.length : Int) == 20) = true := by simp; omega
            have hR : Except.error (q, 21) = R := by rw [← hT2, a_e5 hnm hmu hnb hutT (by unfold badV; rw [h20]; simp)]
            subst hR
            clear h20
            go_wp2_with fail
            refine (fail_any q _).mono ?_
            rintro e w9 ⟨he, rfl⟩
            obtain rfl : e = _ := he
            go_wp2_with fail
            exact ⟨rfl, rfl, hC07.1⟩
           ·
            have hz20 : ((acc.length : Int) == 20) = false := by simp; omega
            obtain ⟨-, -, hCr⟩ := Kd.R_reads' HA7.out
            have hHas := fun b hb => has_any w2.heap.size y (.slice A acc.length cap) acc w8 hcy A cap rfl hCr (by have := HL.out; omega) b hb
            clear hCr
            have hmf : ∀ (fn : Fn) (first cp : Array Value) (w : World), (Instr.makeFunc fn first cp).run Tryz.prog w = .ok (.func fn first cp) w := fun _ _ _ _ => rfl
            cases hhn : hasName acc y with
            | true =>
             have hR : Except.error (q, 21) = R := by rw [← hT2, a_e5 hnm hmu hnb hutT (by unfold badV; rw [show hasName acc ⟨y.data.toList.toArray⟩ = true from hhn]; simp)]
             subst hR
             clear h20
             go_wp2_with fail
             refine (hHas true hhn).mono ?_
             rintro e w9 ⟨rfl, hb9⟩
             go_wp2_with fail
             refine (fail_any q _).mono ?_
             rintro e w10 ⟨he, rfl⟩
             obtain rfl : e = _ := he
             go_wp2_with fail
             exact ⟨rfl, rfl, hC07.1.trans (hb9.mono (Nat.le_of_lt HR7.out.lt))⟩
            | false =>
             have hbv : badV z.data.toList acc y.data.toList = false := by
              unfold badV
              rw [hct, show hasName acc ⟨y.data.toList.toArray⟩ = false from hhn]
              simpa using h20
             clear h20
             go_wp2_with fail
             refine (hHas false hhn).mono ?_
             rintro e w9 ⟨rfl, hb9⟩
             have hC9 : Ch g w8 w9 := Ch.of_below hb9 (Nat.le_of_lt HR7.out.lt)
             have hC09 := hC07.trans hC9
             have hG9 := hG.ch hC09.1
             have hR9 := HR7.out.below hb9
             have hA9 := R_ch HA7.out hlt hC9
             have hB9 : w9.heap[w2.heap.size]? = some (.cells #[.string y, .string ⟨#[]⟩] 77 (0, 0)) := hC9.2.blk HB7.out (Nat.ne_of_gt hga) (by simp)
             have HR9 := Lib.hid hR9
             have HA9 := Lib.hid hA9
             have HB9 := Lib.hid hB9
             clear hR9 hA9 hB9 hHas hcy hb9 HR7 HA7 HB7 hct hhn hmf
             go_wp2_with fail
             have hP := plain_any z (p5 + 1) w9 hG9.glob hzs (by omega)
             cases hpl : plainT z.data.toList (p5 + 1) with
             | error x =>
              obtain ⟨a, er⟩ := x
              rw [hpl] at hP
              refine hP.mono ?_
              rintro e w10 ⟨he, hb⟩
              obtain rfl : e = _ := he
              have hR : Except.error (a, er) = R := by rw [← hT2, a_e6 hnm hmu hnb hutT hbv (by rw [hp5T]; exact hpl)]
              subst hR
              go_wp2_with fail
              exact ⟨rfl, rfl, hC09.1.trans (hb.mono (Nat.le_of_lt HR9.out.lt))⟩
             | ok x =>
              rw [hpl] at hP
              obtain ⟨xv, rfl⟩ : ∃ xv : ByteArray, xv.data.toList = x := ⟨⟨x.toArray⟩, rfl⟩
              refine hP.mono ?_
              rintro e w10 ⟨he, hb10⟩
              obtain rfl : e = .returned (.string xv) := he
              have hok := a_ok (acc := acc) hnm hmu hnb hutT hbv (by rw [hp5T]; exact hpl)
              rw [hok] at hT2
              have HT2 := Lib.hid (show attrsT s kk p7 (acc ++ [⟨y, xv⟩]) = R from hT2)
              clear hok hT2 hP hpl hutT hbv
              have hC10 : Ch g w9 w10 := Ch.of_below hb10 (Nat.le_of_lt HR9.out.lt)
              have hC0t := hC09.trans hC10
              have hR10 := HR9.out.below hb10
              have hA10 := R_ch HA9.out hlt hC10
              have hB10 : w10.heap[w2.heap.size]? = some (.cells #[.string y, .string ⟨#[]⟩] 77 (0, 0)) := hC10.2.blk HB9.out (Nat.ne_of_gt hga) (by simp)
              have hsz10 : w2.heap.size < w10.heap.size := (Array.getElem?_eq_some_iff.1 hB10).1
              have f1 := frozen_of_row w10 w2.heap.size 1 _ _ hB10
              have k1 : w10.cell? ⟨w2.heap.size, 1, none⟩ = some (.string ⟨#[]⟩) := (cell_of_row _ _ 1 _ _ _ hB10).trans rfl
              have hB11 := heap_setCell_same w10 w2.heap.size 1 _ _ (.string xv) hB10
              have j0 : (w10.setCell ⟨w2.heap.size, 1, none⟩ (.string xv)).cell? ⟨w2.heap.size, 0, none⟩ = some (.string y) := (cell_of_row _ _ 0 _ _ _ hB11).trans rfl
              have j1 : (w10.setCell ⟨w2.heap.size, 1, none⟩ (.string xv)).cell? ⟨w2.heap.size, 1, none⟩ = some (.string xv) := (cell_of_row _ _ 1 _ _ _ hB11).trans rfl
              have hCa : Ch g w (w10.setCell ⟨w2.heap.size, 1, none⟩ (.string xv)) := ⟨hC0t.1.setCell (p := ⟨w2.heap.size, 1, none⟩) (Nat.le_of_lt hga) _, keep_far hC0t.2 (p := ⟨w2.heap.size, 1, none⟩) hgN _⟩
              have hAa : k77.R 77 (w10.setCell ⟨w2.heap.size, 1, none⟩ (.string xv)) w.heap.size (fun _ => True) (.slice A acc.length cap) acc := Kd.R_mono (Kd.R_far (p := ⟨w2.heap.size, 1, none⟩) hA10 (fun k hk => Nat.ne_of_lt hk) _) (fun _ _ => trivial)
              have hRa : Rd g s p7 ov (w10.setCell ⟨w2.heap.size, 1, none⟩ (.string xv)) := (Below.heap_setCell _ _ _ _ (Nat.ne_of_lt hga)).trans hR10
              have HCa := Lib.hid hCa
              have HAa := Lib.hid hAa
              have HRa := Lib.hid hRa
              clear hCa hAa hRa hA10 hR10 hB10 hB11 hC10 hC0t HR9 HA9 HB9
              have hszW : (w10.setCell ⟨w2.heap.size, 1, none⟩ (.string xv)).heap.size = w10.heap.size := by simp [World.setCell]
              have HZ := Lib.hid hszW
              clear hszW
              have hacc : acc.length ≤ 1048576 := by have := HL.out; omega
              go_wp2_with (at_builtin; refine Kd.R_append k77 (w0 := w10.setCell ⟨w2.heap.size, 1, none⟩ (.string xv)) (W := w10.setCell ⟨w2.heap.size, 1, none⟩ (.string xv)) w.heap.size rfl (.tmp 117) (.tmp 119) 42 77 _ 32 rfl Tryz.underlying42 info77 rfl (by decide) (by decide) (.slice A acc.length cap) acc ⟨y, xv⟩ [.string y, .string xv] (fun _ => True) (fun _ => False) (by simp [Act.eval, Act.put]) (by simp [Act.eval, Act.put, HZ.out]) (k77_mkM _ _ _ ⟨y, xv⟩) (fun _ h => h.elim) (fun _ _ => trivial) HAa.out (Below.refl _ _) (by rw [HZ.out]; omega) (by omega) ?_)
              intro v1 w11 hA11 hB11 hg11 hat11
              have hRo : (Value.slice A acc.length cap).ownBlock = none ∨ ∃ k, (Value.slice A acc.length cap).ownBlock = some k ∧ w.heap.size ≤ k := Kd.R_base2 HAa.out
              have hR11 : Rd g s p7 ov w11 := (hg11.block g (by rw [HZ.out]; omega) (by rcases hRo with h | ⟨k, h, hk⟩ <;> rw [h] <;> simp <;> omega)).trans HRa.out
              have hC11 : Ch g w w11 := ⟨HCa.out.1.trans (hB11.mono (by omega)), HCa.out.2.trans (KeepBut.of_grown hg11 g) (hRo.elim (fun h => .inl h) (fun ⟨k, h, hk⟩ => .inr ⟨k, h, hk⟩))⟩
              have HA11 := Lib.hid hA11
              have HR11 := Lib.hid hR11
              have HC11 := Lib.hid hC11
              clear hA11 hB11 hg11 hat11 hR11 hC11
              go_wp2_with fail
              go_roundg kk
              case measure => omega
              case rel => exact ⟨p7, acc ++ [⟨y, xv⟩], ⟨hle7.1⟩, ⟨by have := HK.out; omega⟩, ⟨by have := HL.out; simp; omega⟩, ⟨HT2.out⟩, ⟨HR11.out⟩, ⟨HC11.out⟩, ⟨HA11.out⟩⟩
        ·
         by_cases h34 : (rs s p5).take 1 = [34]
         ·
          have hQ : Q = ⟨#[34]⟩ := by
           apply ByteArray.ext
           apply Array.toList_inj.1
           rw [HQl.out, h34]
          subst hQ
          have hps : p5 < s.size := by
           have := congrArg List.length h34
           rw [List.length_take, rs_len] at this
           simp at this
           omega
          have hnb : ¬ badQ ((rs s (p3T s p4)).take 1) := by
           rw [hp5T, h34]
           rintro ⟨x1, x2⟩
           first | exact x1 rfl | exact x2 rfl
          have hcc : ((rs s (p3T s p4)).take 1) = [34] := by rw [hp5T]; exact h34
          have f1 := HR5.out.free 1
          clear h34 HQl
          refine wp_region_quiet_lit (by kernel_rfl) (by kernel_rfl) ?_
          repeat (go_big_quiet_step (fail))
          refine wpQuiet_nil ?_
          intro _ hw6
          obtain ⟨nq6, hw6'⟩ := hw6
          subst hw6'
          have hR6 : Rd g s (p5 + 1) ov ((w5.drewN nq6).setCell ⟨g, 1, none⟩ (.int .i64 ((p5 + 1 : Nat) : Int))) := (HR5.out.drewN nq6).put (p5 + 1)
          have hC06 : Ch g w ((w5.drewN nq6).setCell ⟨g, 1, none⟩ (.int .i64 ((p5 + 1 : Nat) : Int))) := (hC05.drewN nq6).set 1 _
          have hG6 := hG.ch hC06.1
          have hU := until_any g s (p5 + 1) ov ⟨#[34]⟩ _ hR6 hG6 (by omega) hs (by decide)
          rw [show (⟨#[34]⟩ : ByteArray).data.toList = [34] from rfl] at hU
          have HR6 := Lib.hid hR6
          clear hR6 c0
          have d1 := HR6.out.at_ 1
          simp at d1
          go_wp2_with fail
          cases hut : untilT s (p5 + 1) [34] with
          | error x =>
           obtain ⟨a, er⟩ := x
           rw [untilR_error hut] at hU
           refine hU.mono ?_
           rintro e w7 hr
           obtain ⟨rfl, hb⟩ := hr.error
           have hR : Except.error (a, er) = R := by rw [← hT2, a_e4 hnm hmu hnb (by rw [hcc, hp5T]; exact hut)]
           subst hR
           go_wp2_with fail
           exact ⟨rfl, rfl, hC06.1.trans hb⟩
          | ok x =>
           obtain ⟨v, p7⟩ := x
           have hle7 := untilT_le hut (by omega)
           rw [untilR_ok hut] at hU
           obtain ⟨z, rfl⟩ : ∃ z : ByteArray, z.data.toList = v := ⟨⟨v.toArray⟩, rfl⟩
           have hzs : z.size ≤ 1048576 := by rw [Lib.size_eq]; omega
           rw [show strV z.data.toList = .string z from rfl] at hU
           refine hU.mono ?_
           rintro e w7 hr
           obtain ⟨rfl, hR7, hC7⟩ := hr.ok
           have hutT : untilT s (p3T s p4 + 1) ((rs s (p3T s p4)).take 1) = .ok (z.data.toList, p7) := by rw [hcc, hp5T]; exact hut
           clear hU hut
           have hC07 := hC06.trans hC7
           have hG7 := hG.ch hC07.1
           have hA7 : k77.R 77 w7 w.heap.size (fun k => k < w2.heap.size) (.slice A acc.length cap) acc := R_ch HA1b.out hlt (hC2a.trans (hC3.trans (hC4.trans (hC5.trans (((Ch.refl g w5).drewN nq6).set 1 _ |>.trans hC7)))))
           have hB7 : w7.heap[w2.heap.size]? = some (.cells #[.string y, .string ⟨#[]⟩] 77 (0, 0)) := (hC3.trans (hC4.trans (hC5.trans (((Ch.refl g w5).drewN nq6).set 1 _ |>.trans hC7)))).2.blk HB2.out (Nat.ne_of_gt hga) (by simp)
           have hcy : w7.cell? ⟨w2.heap.size, 0, none⟩ = some (.string y) := (cell_of_row _ _ 0 _ _ _ hB7).trans rfl
           have hCon := fun b hb => contains_any z ⟨#[60]⟩ _ [60] b w7 hG7.glob hzs rfl rfl hb
           have HR7 := Lib.hid hR7
           have HA7 := Lib.hid hA7
           have HB7 := Lib.hid hB7
           clear hR7 hA7 hB7 d1 c1
           go_wp2_with fail
           cases hct : Lib.contains z.data.toList [60] with
           | true =>
            refine (hCon true hct).mono ?_
            rintro e w8 ⟨rfl, rfl⟩
            have hR : Except.error (q, 21) = R := by rw [← hT2, a_e5 hnm hmu hnb hutT (by unfold badV; rw [hct]; rfl)]
            subst hR
            go_wp2_with fail
            refine (fail_any q _).mono ?_
            rintro e w9 ⟨he, rfl⟩
            obtain rfl : e = _ := he
            go_wp2_with fail
            exact ⟨rfl, rfl, hC07.1⟩
           | false =>
            refine (hCon false hct).mono ?_
            rintro e w8 ⟨rfl, rfl⟩
            clear hCon
            by_cases h20 : acc.length = 20
            ·
             have hz20 : ((acc.length : Int) == 20) = true := by simp; omega
             have hR : Except.error (q, 21) = R := by rw [← hT2, a_e5 hnm hmu hnb hutT (by unfold badV; rw [h20]; simp)]
             subst hR
             clear h20
             go_wp2_with fail
             refine (fail_any q _).mono ?_
             rintro e w9 ⟨he, rfl⟩
             obtain rfl : e = _ := he
             go_wp2_with fail
             exact ⟨rfl, rfl, hC07.1⟩
            ·
             have hz20 : ((acc.length : Int) == 20) = false := by simp; omega
             obtain ⟨-, -, hCr⟩ := Kd.R_reads' HA7.out
             have hHas := fun b hb => has_any w2.heap.size y (.slice A acc.length cap) acc w8 hcy A cap rfl hCr (by have := HL.out; omega) b hb
             clear hCr
             have hmf : ∀ (fn : Fn) (first cp : Array Value) (w : World), (Instr.makeFunc fn first cp).run Tryz.prog w = .ok (.func fn first cp) w := fun _ _ _ _ => rfl
             cases hhn : hasName acc y with
             | true =>
              have hR : Except.error (q, 21) = R := by rw [← hT2, a_e5 hnm hmu hnb hutT (by unfold badV; rw [show hasName acc ⟨y.data.toList.toArray⟩ = true from hhn]; simp)]
              subst hR
              clear h20
              go_wp2_with fail
              refine (hHas true hhn).mono ?_
              rintro e w9 ⟨rfl, hb9⟩
              go_wp2_with fail
              refine (fail_any q _).mono ?_
              rintro e w10 ⟨he, rfl⟩
              obtain rfl : e = _ := he
              go_wp2_with fail
              exact ⟨rfl, rfl, hC07.1.trans (hb9.mono (Nat.le_of_lt HR7.out.lt))⟩
             | false =>
              have hbv : badV z.data.toList acc y.data.toList = false := by
               unfold badV
               rw [hct, show hasName acc ⟨y.data.toList.toArray⟩ = false from hhn]
               simpa using h20
              clear h20
              go_wp2_with fail
              refine (hHas false hhn).mono ?_
              rintro e w9 ⟨rfl, hb9⟩
              have hC9 : Ch g w8 w9 := Ch.of_below hb9 (Nat.le_of_lt HR7.out.lt)
              have hC09 := hC07.trans hC9
              have hG9 := hG.ch hC09.1
              have hR9 := HR7.out.below hb9
              have hA9 := R_ch HA7.out hlt hC9
              have hB9 : w9.heap[w2.heap.size]? = some (.cells #[.string y, .string ⟨#[]⟩] 77 (0, 0)) := hC9.2.blk HB7.out (Nat.ne_of_gt hga) (by simp)
              have HR9 := Lib.hid hR9
              have HA9 := Lib.hid hA9
              have HB9 := Lib.hid hB9
              clear hR9 hA9 hB9 hHas hcy hb9 HR7 HA7 HB7 hct hhn hmf
              go_wp2_with fail
              have hP := plain_any z (p5 + 1) w9 hG9.glob hzs (by omega)
              cases hpl : plainT z.data.toList (p5 + 1) with
              | error x =>
               obtain ⟨a, er⟩ := x
               rw [hpl] at hP
               refine hP.mono ?_
               rintro e w10 ⟨he, hb⟩
               obtain rfl : e = _ := he
               have hR : Except.error (a, er) = R := by rw [← hT2, a_e6 hnm hmu hnb hutT hbv (by rw [hp5T]; exact hpl)]
               subst hR
               go_wp2_with fail
               exact ⟨rfl, rfl, hC09.1.trans (hb.mono (Nat.le_of_lt HR9.out.lt))⟩
              | ok x =>
               rw [hpl] at hP
               obtain ⟨xv, rfl⟩ : ∃ xv : ByteArray, xv.data.toList = x := ⟨⟨x.toArray⟩, rfl⟩
               refine hP.mono ?_
               rintro e w10 ⟨he, hb10⟩
               obtain rfl : e = .returned (.string xv) := he
               have hok := a_ok (acc := acc) hnm hmu hnb hutT hbv (by rw [hp5T]; exact hpl)
               rw [hok] at hT2
               have HT2 := Lib.hid (show attrsT s kk p7 (acc ++ [⟨y, xv⟩]) = R from hT2)
               clear hok hT2 hP hpl hutT hbv
               have hC10 : Ch g w9 w10 := Ch.of_below hb10 (Nat.le_of_lt HR9.out.lt)
               have hC0t := hC09.trans hC10
               have hR10 := HR9.out.below hb10
               have hA10 := R_ch HA9.out hlt hC10
               have hB10 : w10.heap[w2.heap.size]? = some (.cells #[.string y, .string ⟨#[]⟩] 77 (0, 0)) := hC10.2.blk HB9.out (Nat.ne_of_gt hga) (by simp)
               have hsz10 : w2.heap.size < w10.heap.size := (Array.getElem?_eq_some_iff.1 hB10).1
               have f1 := frozen_of_row w10 w2.heap.size 1 _ _ hB10
               have k1 : w10.cell? ⟨w2.heap.size, 1, none⟩ = some (.string ⟨#[]⟩) := (cell_of_row _ _ 1 _ _ _ hB10).trans rfl
               have hB11 := heap_setCell_same w10 w2.heap.size 1 _ _ (.string xv) hB10
               have j0 : (w10.setCell ⟨w2.heap.size, 1, none⟩ (.string xv)).cell? ⟨w2.heap.size, 0, none⟩ = some (.string y) := (cell_of_row _ _ 0 _ _ _ hB11).trans rfl
               have j1 : (w10.setCell ⟨w2.heap.size, 1, none⟩ (.string xv)).cell? ⟨w2.heap.size, 1, none⟩ = some (.string xv) := (cell_of_row _ _ 1 _ _ _ hB11).trans rfl
               have hCa : Ch g w (w10.setCell ⟨w2.heap.size, 1, none⟩ (.string xv)) := ⟨hC0t.1.setCell (p := ⟨w2.heap.size, 1, none⟩) (Nat.le_of_lt hga) _, keep_far hC0t.2 (p := ⟨w2.heap.size, 1, none⟩) hgN _⟩
               have hAa : k77.R 77 (w10.setCell ⟨w2.heap.size, 1, none⟩ (.string xv)) w.heap.size (fun _ => True) (.slice A acc.length cap) acc := Kd.R_mono (Kd.R_far (p := ⟨w2.heap.size, 1, none⟩) hA10 (fun k hk => Nat.ne_of_lt hk) _) (fun _ _ => trivial)
               have hRa : Rd g s p7 ov (w10.setCell ⟨w2.heap.size, 1, none⟩ (.string xv)) := (Below.heap_setCell _ _ _ _ (Nat.ne_of_lt hga)).trans hR10
               have HCa := Lib.hid hCa
               have HAa := Lib.hid hAa
               have HRa := Lib.hid hRa
               clear hCa hAa hRa hA10 hR10 hB10 hB11 hC10 hC0t HR9 HA9 HB9
               have hszW : (w10.setCell ⟨w2.heap.size, 1, none⟩ (.string xv)).heap.size = w10.heap.size := by simp [World.setCell]
               have HZ := Lib.hid hszW
               clear hszW
               have hacc : acc.length ≤ 1048576 := by have := HL.out; omega
               go_wp2_with (at_builtin; refine Kd.R_append k77 (w0 := w10.setCell ⟨w2.heap.size, 1, none⟩ (.string xv)) (W := w10.setCell ⟨w2.heap.size, 1, none⟩ (.string xv)) w.heap.size rfl (.tmp 117) (.tmp 119) 42 77 _ 32 rfl Tryz.underlying42 info77 rfl (by decide) (by decide) (.slice A acc.length cap) acc ⟨y, xv⟩ [.string y, .string xv] (fun _ => True) (fun _ => False) (by simp [Act.eval, Act.put]) (by simp [Act.eval, Act.put, HZ.out]) (k77_mkM _ _ _ ⟨y, xv⟩) (fun _ h => h.elim) (fun _ _ => trivial) HAa.out (Below.refl _ _) (by rw [HZ.out]; omega) (by omega) ?_)
               intro v1 w11 hA11 hB11 hg11 hat11
               have hRo : (Value.slice A acc.length cap).ownBlock = none ∨ ∃ k, (Value.slice A acc.length cap).ownBlock = some k ∧ w.heap.size ≤ k := Kd.R_base2 HAa.out
               have hR11 : Rd g s p7 ov w11 := (hg11.block g (by rw [HZ.out]; omega) (by rcases hRo with h | ⟨k, h, hk⟩ <;> rw [h] <;> simp <;> omega)).trans HRa.out
               have hC11 : Ch g w w11 := ⟨HCa.out.1.trans (hB11.mono (by omega)), HCa.out.2.trans (KeepBut.of_grown hg11 g) (hRo.elim (fun h => .inl h) (fun ⟨k, h, hk⟩ => .inr ⟨k, h, hk⟩))⟩
               have HA11 := Lib.hid hA11
               have HR11 := Lib.hid hR11
               have HC11 := Lib.hid hC11
               clear hA11 hB11 hg11 hat11 hR11 hC11
               go_wp2_with fail
               go_roundg kk
               case measure => omega
               case rel => exact ⟨p7, acc ++ [⟨y, xv⟩], ⟨hle7.1⟩, ⟨by have := HK.out; omega⟩, ⟨by have := HL.out; simp; omega⟩, ⟨HT2.out⟩, ⟨HR11.out⟩, ⟨HC11.out⟩, ⟨HA11.out⟩⟩
         ·
          have hbq : badQ ((rs s (p3T s p4)).take 1) := by rw [hp5T]; exact ⟨h39, h34⟩
          have hq1 : (Q.toList == [39]) = false := by rw [Lib.toList_data, HQl.out]; simpa using h39
          have hq2 : (Q.toList == [34]) = false := by rw [Lib.toList_data, HQl.out]; simpa using h34
          have hq3 : ¬ Q.toList = [39] := by rw [Lib.toList_data, HQl.out]; exact h39
          have hq4 : ¬ Q.toList = [34] := by rw [Lib.toList_data, HQl.out]; exact h34
          clear h39 h34
          go_quiet (fail)
          have hR : Except.error (p5, 21) = R := by rw [← hT2, a_e3 hnm hmu hbq, hp5T]
          subst hR
          go_wp2_with fail
          refine (fail_any p5 _).mono ?_
          rintro e w6 ⟨he, rfl⟩
          obtain rfl : e = _ := he
          go_wp2_with fail
          exact ⟨rfl, rfl, (hC05.drewN _).1⟩
    ·
     have hqz : decide (q < s.size) = false := decide_eq_false hq
     have hR : Except.ok (acc, q) = R := by
      rw [← hT, hd0, head_end s q hq]
      rfl
     subst hR
     clear hT HT hn0 hq
     go_wp2_with fail
     refine wp_region_head (by kernel_rfl) (by kernel_rfl) rfl rfl ?_
     change Oper.wp _ _ _ (World.drew _) _ _
     go_simp
     refine hBk.mono ?_
     rintro e w1 hr
     obtain ⟨rfl, hR1, hC1⟩ := hr.ok
     rw [hd0]
     dsimp only
     have c0 := hR1.at_ 0
     have c1 := hR1.at_ 1
     simp at c0 c1
     repeat (go_big_quiet_step (fail))
     refine wpQuiet_nil ?_
     intro n1
     clear c0 c1
     go_wp2_with fail
     refine bodyPost_ret (results_tmp rfl _ _ _) rfl ?_
     have hCC := hCd.trans hC1
     exact ⟨_, rfl, hR1.drewN _, hCC.drewN _, R_ch HA.out hlt ((ch_drew g wr).trans hC1 |>.drewN _)⟩
   ·
    have hR : Except.ok (acc, q) = R := by
     rw [← hT, decide_eq_false hn0]
     rfl
    subst hR
    have hd0 : decide (0 < n) = false := decide_eq_false hn0
    clear hT HT hn0
    go_wp2_with fail
    refine wp_region_head (by kernel_rfl) (by kernel_rfl) rfl rfl ?_
    change Oper.wp _ _ _ (World.drew _) _ _
    go_simp
    refine hBk.mono ?_
    rintro e w1 hr
    obtain ⟨rfl, hR1, hC1⟩ := hr.ok
    rw [hd0]
    dsimp only
    have c0 := hR1.at_ 0
    have c1 := hR1.at_ 1
    simp at c0 c1
    repeat (go_big_quiet_step (fail))
    refine wpQuiet_nil ?_
    intro n1
    clear c0 c1
    go_wp2_with fail
    refine bodyPost_ret (results_tmp rfl _ _ _) rfl ?_
    have hCC := hCd.trans hC1
    exact ⟨_, rfl, hR1.drewN _, hCC.drewN _, R_ch HA.out hlt ((ch_drew g wr).trans hC1 |>.drewN _)⟩
end Go.Proofs.YtknfpggiigncpaaGreatDoor.C
