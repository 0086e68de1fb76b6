/- token's reader reads all: its contract. -/
import Derived.Test.YtknfpggiigncpaaGreatDoorXTok7
set_option linter.unusedVariables false
set_option linter.unusedSimpArgs false
namespace Go.Proofs.YtknfpggiigncpaaGreatDoor.C
open Go.RowKit P A YtknfpggiigncpaaGreatDoorW.PrintWords YtknfpggiigncpaaGreatDoorW.PrintLast YtknfpggiigncpaaGreatDoorW.PrintMore
def textTk (s : ByteArray) (p : Nat) (xs : List S44) : Except (Nat × Int) (Nat × List S44) :=
 match plainT (Lib.cut (rs s p) [60]).1 p with
 | .error x => .error x
 | .ok x => .ok (p + (Lib.cut (rs s p) [60]).1.length, putT xs ⟨3, ⟨#[]⟩, ⟨x.toArray⟩, [], false, (p : Int)⟩)
def tk1T (s : ByteArray) (p : Nat) (xs : List S44) : Except (Nat × Int) (Nat × List S44) :=
 match formI (rs s p) with
 | some 0 => form1R s (p + 4) xs
 | some 1 => form2T s (p + 9) xs
 | some 2 => form3T s (p + 2) xs
 | some _ => form4T s (p + 1) xs
 | none => textTk s p xs
def tkT (s : ByteArray) : Nat → Nat → List S44 → Except (Nat × Int) (List S44)
 | 0, _, xs => .ok xs
 | f + 1, p, xs =>
  if p < s.size then
   match tk1T s p xs with
   | .error x => .error x
   | .ok (q, ys) => tkT s f q ys
  else .ok xs
def startT (s : ByteArray) : Except (Nat × Int) Nat :=
 if Lib.hasPrefix s.data.toList [60, 63, 120, 109, 108] = true then
  match untilT s 5 [63, 62] with
  | .error x => .error x
  | .ok (a, q) => if Lib.contains a [60] = true then .error (0, 21) else .ok q
 else .ok 0
def readT (s : ByteArray) : Except (Nat × Int) (List S44) :=
 match startT s with
 | .error x => .error x
 | .ok q => tkT s (s.size + 1) q []
def ReadRes (g : Nat) (s : ByteArray) (w : World) (r : Except (Nat × Int) (List S44)) (e : Ending) (w' : World) : Prop :=
 match r with
 | .ok xs => e = .returned (.tuple #[]) ∧ ∃ q ov', Rd g s q ov' w' ∧ Own g ov' xs w' ∧ Below g w w'
 | .error (a, er) => Thrown e a er ∧ Below g w w'
theorem putT_len (xs : List S44) (t : S44) : (putT xs t).length ≤ xs.length + 1 := by
 unfold putT
 split <;> simp
theorem formI_le (l : List UInt8) : (formI l = some 0 → 4 ≤ l.length) ∧ (formI l = some 1 → 9 ≤ l.length) ∧ (formI l = some 2 → 2 ≤ l.length) ∧ (formI l = some 3 → 1 ≤ l.length) ∧ (∀ n, formI l = some (n + 4) → False) := by
 unfold formI
 have key : ∀ t, Lib.hasPrefix l t = true → t.length ≤ l.length := fun t h => Lib.hasPrefix_le h
 refine ⟨?_, ?_, ?_, ?_, ?_⟩
 all_goals
  intros
  rename_i h
  repeat' split at h
  all_goals first
   | (cases h; done)
   | (rename_i hb; have := key _ hb; simpa using this)
   | (rename_i hb _; have := key _ hb; simp at h)
   | simp at h
theorem cut_le (l t : List UInt8) : (Lib.cut l t).1.length ≤ l.length := by
 unfold Lib.cut
 split
 ·
  simp
  omega
 ·
  exact Nat.le_refl _
theorem cut_pos (b : UInt8) (l : List UInt8) (h : Lib.hasPrefix (b :: l) [60] = false) : 1 ≤ (Lib.cut (b :: l) [60]).1.length := by
 have hb : b ≠ 60 := by
  intro e
  subst e
  simp [Lib.hasPrefix] at h
 unfold Lib.cut
 rw [Lib.index_one]
 unfold Lib.indexByte
 rw [beq_eq_false_iff_ne.2 hb]
 simp only [Bool.false_eq_true, if_false]
 have hge := Lib.indexByte_ge l 60
 by_cases hi : Lib.indexByte l 60 = -1
 ·
  rw [hi]
  simp
 ·
  rw [beq_eq_false_iff_ne.2 hi]
  simp only [Bool.false_eq_true, if_false]
  rw [if_pos (by omega)]
  simp
  omega
theorem tk1_le {s : ByteArray} {p q : Nat} {xs ys : List S44} (hp : p < s.size) (h : tk1T s p xs = .ok (q, ys)) : p < q ∧ q ≤ s.size ∧ ys.length ≤ xs.length + 1 := by
 have hrl := rs_len s p
 have hfi := formI_le (rs s p)
 unfold tk1T at h
 split at h
 ·
  rename_i hf
  have h4 := hfi.1 hf
  unfold form1R form1T at h
  cases hu : untilT s (p + 4) [45, 45, 62] with
  | error x => rw [hu] at h; cases h
  | ok x =>
   obtain ⟨a, q'⟩ := x
   have := untilT_le hu (by omega)
   rw [hu] at h
   simp only at h
   split at h
   ·
    cases h
   ·
    injection h with h
    injection h with h1 h2
    subst h1
    subst h2
    omega
 ·
  rename_i hf
  have h4 := hfi.2.1 hf
  unfold form2T at h
  cases hu : untilT s (p + 9) [93, 93, 62] with
  | error x => rw [hu] at h; cases h
  | ok x =>
   obtain ⟨a, q'⟩ := x
   have := untilT_le hu (by omega)
   rw [hu] at h
   injection h with h
   injection h with h1 h2
   subst h1
   subst h2
   have := putT_len xs ⟨3, ⟨#[]⟩, ⟨a.toArray⟩, [], false, ((p + 9 - 9 : Nat) : Int)⟩
   omega
 ·
  rename_i hf
  have h4 := hfi.2.2.1 hf
  unfold form3T at h
  cases hu : nameT s (p + 2) with
  | error x => rw [hu] at h; cases h
  | ok x =>
   obtain ⟨a, q'⟩ := x
   have l1 := nameT_le hu (by omega)
   have hb := blankN_le (rs s q')
   rw [rs_len] at hb
   rw [hu] at h
   simp only at h
   cases hm : mustT s (q' + blankN (rs s q')) [62] with
   | error x => rw [hm] at h; cases h
   | ok q2 =>
    have l2 := mustT_le hm (by omega)
    rw [hm] at h
    injection h with h
    injection h with h1 h2
    subst h1
    subst h2
    have := putT_len xs ⟨2, ⟨a.toArray⟩, ⟨#[]⟩, [], false, ((p + 2 - 2 : Nat) : Int)⟩
    omega
 ·
  rename_i n hf1 hf2 hf3 hf
  have h4 : 1 ≤ (rs s p).length := by
   match n, hf, hf1, hf2, hf3 with
   | 0, _, h, _, _ => exact absurd rfl h
   | 1, _, _, h, _ => exact absurd rfl h
   | 2, _, _, _, h => exact absurd rfl h
   | 3, hf, _, _, _ => exact hfi.2.2.2.1 hf
   | n + 4, hf, _, _, _ => exact (hfi.2.2.2.2 n hf).elim
  unfold form4T at h
  cases hu : nameT s (p + 1) with
  | error x => rw [hu] at h; cases h
  | ok x =>
   obtain ⟨a, q'⟩ := x
   have l1 := nameT_le hu (by omega)
   rw [hu] at h
   simp only at h
   cases ha : attrsT s (s.size + 1 - q') q' [] with
   | error x => rw [ha] at h; cases h
   | ok x =>
    obtain ⟨l, q2⟩ := x
    have l2 := attrsT_le s _ q' [] l q2 (by omega) ha
    rw [ha] at h
    simp only at h
    have hsf : selfN s q2 ≤ s.size ∧ q2 ≤ selfN s q2 := by
     unfold selfN
     split
     ·
      rename_i hh
      have := Lib.hasPrefix_le hh
      rw [rs_len] at this
      simp at this
      omega
     ·
      omega
    cases hm : mustT s (selfN s q2) [62] with
    | error x => rw [hm] at h; cases h
    | ok q4 =>
     have l3 := mustT_le hm (by omega)
     rw [hm] at h
     injection h with h
     injection h with h1 h2
     subst h1
     subst h2
     have := putT_len xs ⟨1, ⟨a.toArray⟩, ⟨#[]⟩, l, Lib.hasPrefix (rs s q2) [47, 62], ((p + 1 - 1 : Nat) : Int)⟩
     omega
 ·
  rename_i hf
  unfold textTk at h
  have hcl := cut_le (rs s p) [60]
  have hno : Lib.hasPrefix (rs s p) [60] = false := by
   cases hh : Lib.hasPrefix (rs s p) [60] with
   | false => rfl
   | true =>
    unfold formI at hf
    rw [if_pos hh] at hf
    repeat' split at hf
    all_goals cases hf
  have hne : rs s p ≠ [] := by
   intro e
   rw [e] at hrl
   simp at hrl
   omega
  obtain ⟨b, r, hbr⟩ := List.exists_cons_of_ne_nil hne
  rw [hbr] at hno
  have hc1 := cut_pos b r hno
  rw [← hbr] at hc1
  cases hpl : plainT (Lib.cut (rs s p) [60]).1 p with
  | error x => rw [hpl] at h; cases h
  | ok x =>
   rw [hpl] at h
   injection h with h
   injection h with h1 h2
   subst h1
   subst h2
   have := putT_len xs ⟨3, ⟨#[]⟩, ⟨x.toArray⟩, [], false, (p : Int)⟩
   omega
theorem cellC {w w1 : World} {b o : Nat} (h : w1.heap[b]? = w.heap[b]?) : w1.cell? ⟨b, o, none⟩ = w.cell? ⟨b, o, none⟩ := by simp [World.cell?, h]
theorem blk_ne_own {w : World} {g : Nat} {ov : Value} {xs : List S44} (h : Own g ov xs w) {b : Nat} {v : Value} (hb : w.heap[b]? = some (.cells #[v] 81 (0, 0))) : some b ≠ ov.ownBlock := fun e => by
 obtain ⟨cells, hc⟩ := Kd.S_typed h b e.symm
 rw [hb] at hc
 injection hc with hc
 injection hc with _ hc
 exact absurd hc (by decide)
set_option maxHeartbeats 16000000 in
set_option maxRecDepth 100000 in
theorem read_any (g : Nat) (s : ByteArray) (w : World) (h : Rd g s 0 (.slice none 0 0) w) (hG : Gl g w) (hs : s.size ≤ 1048576) :
  Calls Tryz.prog 55 #[.pointer (some ⟨g, 0, none⟩)] w (ReadRes g s w (readT s)) := by
 have hlt := h.lt
 obtain ⟨R, hR⟩ : ∃ R, readT s = R := ⟨_, rfl⟩
 rw [hR]
 have hC0 : Ch g w (w.alloc (.cells #[.pointer (some ⟨g, 0, none⟩)] 81)) := ch_alloc (Ch.refl _ _) hlt _
 have hR0 := rd_alloc h (.cells #[.pointer (some ⟨g, 0, none⟩)] 81)
 have hV0 := cells_alloc w #[.pointer (some ⟨g, 0, none⟩)] 81
 have hO0 : Own g (.slice none 0 0) [] (w.alloc (.cells #[.pointer (some ⟨g, 0, none⟩)] 81)) := Kd.S_nil _ _ _ _ _
 have hG0 := hG.ch hC0.1
 have hv := crow 0 (Value.pointer (some ⟨g, 0, none⟩)) hV0
 have c0 := hR0.at_ 0
 have c1 := hR0.at_ 1
 have f1 := hR0.free 1
 simp at c0 c1
 have HR := Lib.hid hR
 have HR0 := Lib.hid hR0
 have HV0 := Lib.hid hV0
 have HO0 := Lib.hid hO0
 clear h hR hR0 hV0 hO0
 -- the loop, from any place
 cases hpx : Lib.hasPrefix s.data.toList [60, 63, 120, 109, 108]
 case' true =>
  have hsz5 : 5 ≤ s.size := by
   have := Lib.hasPrefix_le hpx
   rw [← Lib.size_eq] at this
   exact this
  have hPre := hasPrefix_any s ⟨#[60, 63, 120, 109, 108]⟩ true hpx
  go_enter Tryz.func55, Tryz.ntmps55
  go_wp2_with fail
  refine (hPre _).mono ?_
  rintro e w1 ⟨rfl, n1, rfl⟩
  have hR1 : Rd g s 5 (.slice none 0 0) (((w.alloc (.cells #[.pointer (some ⟨g, 0, none⟩)] 81)).drewN n1).setCell ⟨g, 1, none⟩ (.int .i64 ((5 : Nat) : Int))) := (HR0.out.drewN n1).put 5
  have hC1 : Ch g w (((w.alloc (.cells #[.pointer (some ⟨g, 0, none⟩)] 81)).drewN n1).setCell ⟨g, 1, none⟩ (.int .i64 ((5 : Nat) : Int))) := (hC0.drewN n1).set 1 _
  have hV1 := hC1.2
  have hVb1 : (((w.alloc (.cells #[.pointer (some ⟨g, 0, none⟩)] 81)).drewN n1).setCell ⟨g, 1, none⟩ (.int .i64 ((5 : Nat) : Int))).heap[w.heap.size]? = some (.cells #[.pointer (some ⟨g, 0, none⟩)] 81 (0, 0)) := (Below.heap_setCell _ _ _ _ (Nat.ne_of_gt hlt)).trans HV0.out
  have p1 : ((w.alloc (.cells #[.pointer (some ⟨g, 0, none⟩)] 81)).setCell ⟨g, 1, none⟩ (.int .i64 5)).cell? ⟨w.heap.size, 0, none⟩ = some (.pointer (some ⟨g, 0, none⟩)) := (cellC (Below.heap_setCell _ _ _ _ (Nat.ne_of_gt hlt))).trans hv
  have p2 : (((w.setCell ⟨g, 1, none⟩ (.int .i64 5))).alloc (.cells #[.pointer (some ⟨g, 0, none⟩)] 81)).cell? ⟨w.heap.size, 0, none⟩ = some (.pointer (some ⟨g, 0, none⟩)) := by
   have := cells_alloc (w.setCell ⟨g, 1, none⟩ (.int .i64 5)) #[.pointer (some ⟨g, 0, none⟩)] 81
   rw [show (w.setCell ⟨g, 1, none⟩ (.int .i64 5)).heap.size = w.heap.size by simp [World.setCell]] at this
   exact (cell_of_row _ _ 0 _ _ _ this).trans rfl
  have hG1 := hG.ch hC1.1
  have hO1 := HO0.out
  have hU := until_any g s 5 (.slice none 0 0) ⟨#[63, 62]⟩ _ hR1 hG1 hsz5 hs (by decide)
  rw [show (⟨#[63, 62]⟩ : ByteArray).data.toList = [63, 62] from rfl] at hU
  clear hR1 hV1
  go_wp2_with fail
  cases hu : untilT s 5 [63, 62]
  case error x =>
   obtain ⟨a, er⟩ := x
   rw [untilR_error hu] at hU
   refine hU.mono ?_
   rintro e w2 hr
   obtain ⟨rfl, hb⟩ := hr.error
   have hr : Except.error (a, er) = R := by
    rw [← HR.out]
    unfold readT startT
    rw [if_pos hpx, hu]
   subst hr
   go_wp2_with fail
   exact ⟨rfl, rfl, hC1.1.trans hb⟩
  case' ok x =>
   obtain ⟨a, q⟩ := x
   have hle5 := untilT_le hu hsz5
   rw [untilR_ok hu] at hU
   obtain ⟨y, rfl⟩ : ∃ y : ByteArray, y.data.toList = a := ⟨⟨a.toArray⟩, rfl⟩
   rw [show strV y.data.toList = .string y from rfl] at hU
   have hsy : y.size ≤ 1048576 := by rw [Lib.size_eq]; omega
   refine hU.mono ?_
   rintro e w2 hr
   obtain ⟨rfl, hR2, hC12⟩ := hr.ok
   have hC2 := hC1.trans hC12
   have hG2 := hG.ch hC2.1
   have hV2 := hC12.2.blk hVb1 (Nat.ne_of_gt hlt) (by simp)
   have hO2 : Own g (.slice none 0 0) [] w2 := Kd.S_nil _ _ _ _ _
   have hCon := fun b hb => contains_any y ⟨#[60]⟩ _ [60] b w2 hG2.glob hsy rfl rfl hb
   have HR2 := Lib.hid hR2
   have HV2 := Lib.hid hV2
   have HO2 := Lib.hid hO2
   clear hU hR2 hV2 hO2 p1 p2 hVb1
   go_wp2_with fail
   cases hct : Lib.contains y.data.toList [60]
   case true =>
    refine (hCon true hct).mono ?_
    rintro e w3 ⟨rfl, rfl⟩
    have hr : Except.error (0, 21) = R := by
     rw [← HR.out]
     unfold readT startT
     rw [if_pos hpx, hu]
     simp only [hct, if_true]
    subst hr
    go_wp2_with fail
    refine (fail_any 0 _).mono ?_
    rintro e w4 ⟨he, rfl⟩
    obtain rfl : e = _ := he
    go_wp2_with fail
    exact ⟨rfl, rfl, hC2.1⟩
   case' false =>
    refine (hCon false hct).mono ?_
    rintro e w3 ⟨rfl, rfl⟩
    have hT0 : tkT s (s.size + 1) q [] = R := by
     rw [← HR.out]
     unfold readT startT
     rw [if_pos hpx, hu]
     simp only [hct]
     rfl
    clear hCon hct hu hC1 hG1 hC12
    go_wp2_with fail
 case' false =>
  have hT0 : tkT s (s.size + 1) 0 [] = R := by
   rw [← HR.out]
   unfold readT startT
   rw [hpx]
   rfl
  have hPre := hasPrefix_any s ⟨#[60, 63, 120, 109, 108]⟩ false hpx
  go_enter Tryz.func55, Tryz.ntmps55
  go_wp2_with fail
  refine (hPre _).mono ?_
  rintro e w1 ⟨rfl, n1, rfl⟩
  go_wp2_with fail
 all_goals
  go_loopg [2] (s.size + 1) (fun kq v2 wr => ∃ (pp : Nat) (xs : List S44) (ov : Value), Aside0 (pp ≤ s.size) ∧ Aside0 (s.size < pp + kq) ∧ Aside0 (xs.length ≤ pp) ∧ Aside0 (tkT s kq pp xs = R) ∧ Aside0 (Rd g s pp ov wr) ∧ Aside0 (Own g ov xs wr) ∧ Aside0 (Below g w wr) ∧ Aside0 (wr.heap[w.heap.size]? = some (.cells #[.pointer (some ⟨g, 0, none⟩)] 81 (0, 0))))
  case atStart => first | exact ⟨q, [], _, ⟨hle5.1⟩, ⟨by omega⟩, ⟨Nat.zero_le _⟩, ⟨hT0⟩, ⟨HR2.out⟩, ⟨HO2.out⟩, ⟨hC2.1⟩, ⟨HV2.out⟩⟩ | exact ⟨0, [], _, ⟨Nat.zero_le _⟩, ⟨by omega⟩, ⟨Nat.zero_le _⟩, ⟨hT0⟩, ⟨HR0.out⟩, ⟨HO0.out⟩, ⟨(hC0.drewN n1).1⟩, ⟨HV0.out⟩⟩
  case round =>
   clear hT0 hPre c0 c1 f1 hv HR0 HV0 HO0
   try clear HR2 HO2 HV2 hC2
   obtain ⟨pp, xs, ov, HP, HK, HL, HT, HRd, HO, HB, HVb⟩ := hrel
   cases gk with
   | zero => exact absurd HK.out (by have := HP.out; omega)
   | succ kk =>
    have hT := HT.out
    simp only [tkT] at hT
    have hGw := hG.ch HB.out
    have hv := crow 0 (Value.pointer (some ⟨g, 0, none⟩)) HVb.out
    have HV := Lib.hid hv
    have c0 := HRd.out.at_ 0
    have c1 := HRd.out.at_ 1
    simp at c0 c1
    by_cases hlt2 : pp < s.size
    ·
     have hd : decide (pp < s.size) = true := decide_eq_true hlt2
     rw [if_pos hlt2] at hT
     clear HT
     go_wp2_with fail
     refine wp_region_quiet_lit (by kernel_rfl) (by kernel_rfl) ?_
     repeat (go_big_quiet_step (fail))
     refine wpQuiet_nil ?_
     intro _ hw5
     obtain ⟨nq, hw5'⟩ := hw5
     subst hw5'
     go_wp2_with fail
     refine (forms_any _).mono ?_
     rintro e w2 ⟨rfl, rfl⟩
     have hmf : ∀ (fn : Fn) (first cp : Array Value) (w : World), (Instr.makeFunc fn first cp).run Tryz.prog w = .ok (.func fn first cp) w := fun _ _ _ _ => rfl
     have hB1 : Below wr.heap.size wr ((wr.drewN nq).alloc (.cells formCells 130)) := below_alloc (pw_below_drewN (Below.refl _ _) nq) _
     have hIdx := form_idx g w.heap.size wr.heap.size s pp ov ((wr.drewN nq).alloc (.cells formCells 130)) (HRd.out.below hB1) (cellBelow hB1 HV.out) HP.out hs (cells_alloc (wr.drewN nq) formCells 130)
     go_wp2_with fail
     cases hfo : formI (rs s pp) with
     | none =>
      rw [hfo] at hIdx
      have htk : tk1T s pp xs = textTk s pp xs := by unfold tk1T; rw [hfo]
      have hle := fun q ys (h : textTk s pp xs = .ok (q, ys)) => tk1_le hlt2 (htk.trans h)
      rw [htk] at hT
      unfold textTk at hT hle
      have hz : formZ none = -1 := rfl
      rw [hz] at hIdx
      clear htk hfo hz
      refine hIdx.mono ?_
      rintro e w3 ⟨rfl, hb3⟩
      have hB13 : Below wr.heap.size wr w3 := hB1.trans (hb3.mono hB1.size)
      have hR3 := HRd.out.below hB13
      have hV3 := cellBelow hB13 HV.out
      have hgw3 : g < w3.heap.size := hR3.lt
      have hG3 := hGw.below hB13
      have c1 := hR3.at_ 1
      have f1 := hR3.free 1
      simp at c1
      have HR3 := Lib.hid hR3
      have hcl := cut_le (rs s pp) [60]
      rw [rs_len] at hcl
      have hCut : ∀ n, Calls Tryz.prog 67 #[.string (s.extract pp s.size), .string ⟨#[60]⟩] (w3.drewN n) fun e w' => e = .returned (.tuple #[.string ⟨(Lib.cut (rs s pp) [60]).1.toArray⟩, .string ⟨(Lib.cut (rs s pp) [60]).2.1.toArray⟩, .bool (Lib.cut (rs s pp) [60]).2.2]) ∧ ∃ n, w' = w3.drewN n := by
       intro n
       obtain ⟨m, hm⟩ := hG3.glob.maxLen
       have := Tryz.strings_Cut (s.extract pp s.size) ⟨#[60]⟩ m (w3.drewN n) (by have h9 : (s.extract pp s.size).size ≤ s.size := (by simp); omega) hm
       rw [rs_ext] at this
       refine this.mono ?_
       rintro e w' ⟨he, k, rfl⟩
       exact ⟨he, n + k, by simp⟩
      generalize Lib.cut (rs s pp) [60] = c at *
      obtain ⟨a0, c2, is⟩ := c
      obtain ⟨x, rfl⟩ : ∃ x : ByteArray, x.data.toList = a0 := ⟨⟨a0.toArray⟩, rfl⟩
      simp only at *
      rw [show (⟨x.data.toList.toArray⟩ : ByteArray) = x from rfl] at hCut
      rw [← Lib.size_eq x] at hcl hT hle
      clear hR3 hIdx
      go_wp2_with fail
      refine (rest_any g s pp ov _ HR3.out HP.out hs).mono ?_
      rintro e w4 ⟨rfl, n4, rfl⟩
      go_wp2_with fail
      refine (hCut n4).mono ?_
      rintro e w4 ⟨rfl, n5, rfl⟩
      clear hCut
      have p1 : (w3.setCell ⟨g, 1, none⟩ (.int .i64 ((pp : Int) + (x.size : Int)))).cell? ⟨w.heap.size, 0, none⟩ = some (.pointer (some ⟨g, 0, none⟩)) := (cellC (Below.heap_setCell _ _ _ _ (Nat.ne_of_gt hlt))).trans hV3
      go_wp2_with fail
      have hC5 : Ch g wr ((w3.drewN n5).setCell ⟨g, 1, none⟩ (.int .i64 ((pp : Int) + (x.size : Int)))) := ((Ch.of_below hB13 (Nat.le_of_lt HRd.out.lt)).drewN n5).set 1 _
      have hR5 : Rd g s (pp + x.size) ov ((w3.drewN n5).setCell ⟨g, 1, none⟩ (.int .i64 ((pp : Int) + (x.size : Int)))) := Rd.put (p := pp) (HR3.out.drewN n5) (pp + x.size)
      have hO5 := HO.out.ch hC5
      have hG5 : Gl g ((w3.drewN n5).setCell ⟨g, 1, none⟩ (.int .i64 ((pp : Int) + (x.size : Int)))) := hG.ch (HB.out.trans hC5.1)
      have hV5 := hC5.2.blk HVb.out (Nat.ne_of_gt hlt) (by simp)
      have HR5 := Lib.hid hR5
      have HO5 := Lib.hid hO5
      have HC5 := Lib.hid hC5
      have HV5 := Lib.hid hV5
      clear hR5 hO5 hC5 hV5 p1 c1 f1
      generalize ((w3.drewN n5).setCell ⟨g, 1, none⟩ (.int .i64 ((pp : Int) + (x.size : Int)))) = w5 at *
      have q1 : w5.cell? ⟨w.heap.size, 0, none⟩ = some (.pointer (some ⟨g, 0, none⟩)) := (cell_of_row _ _ 0 _ _ _ HV5.out).trans rfl
      refine start_ (n := 7) (S := fun w' => w'.cell? ⟨w.heap.size, 0, none⟩ = some (.pointer (some ⟨g, 0, none⟩))) (ds := [6]) (ms5 0 7) (by kernel_rfl) rfl rfl q1 (fun hHeld => ?_)
      refine pure_ (i := 1) (N := some 74) (v := ?_) (a' := ?_) #[false, true, false, false, false, false, false] rfl rfl (by kernel_rfl) (fun _ _ _ h => h) (Or.inl ⟨by rfl, ?_⟩) ?_ ?_
      rotate_left
      ·
       intro w'
       go_simp
       with_reducible rfl
      rotate_left
      ·
       simp only [Act.put, List.setIfInBounds_toArray, List.set_cons_zero, List.set_cons_succ]
       rfl
      refine pure_ (i := 2) (N := some 75) (v := ?_) (a' := ?_) #[false, true, true, false, false, false, false] rfl rfl (by kernel_rfl) (fun _ _ _ h => h) (Or.inl ⟨by rfl, ?_⟩) ?_ ?_
      rotate_left
      ·
       intro w'
       go_simp
       with_reducible rfl
      rotate_left
      ·
       simp only [Act.put, List.setIfInBounds_toArray, List.set_cons_zero, List.set_cons_succ]
       rfl
      refine pure_ (i := 4) (N := some 77) (v := ?_) (a' := ?_) #[false, true, true, false, true, false, false] rfl rfl (by kernel_rfl) (fun _ _ _ h => h) (Or.inl ⟨by rfl, ?_⟩) ?_ ?_
      rotate_left
      ·
       intro w'
       go_simp
       with_reducible rfl
      rotate_left
      ·
       simp only [Act.put, List.setIfInBounds_toArray, List.set_cons_zero, List.set_cons_succ]
       rfl
      refine take_ (i := 0) (N := some 73) (v := ?_) (a' := ?_) #[true, true, true, false, true, false, false] rfl rfl (by kernel_rfl) (fun _ _ _ h => h) (Or.inl ⟨by rfl, ?_⟩) hHeld ?_ ?_
      rotate_left
      ·
       intro w' s0
       go_simp
       with_reducible rfl
      rotate_left
      ·
       simp only [Act.put, List.setIfInBounds_toArray, List.set_cons_zero, List.set_cons_succ]
       rfl
      refine one_ (i := 3) (N := some 76) (ms5 5 2) rfl rfl (by kernel_rfl) (by decide) (fun K hK => ?_)
      rw [if_pos (by rfl)]
      go_simp
      have hG6 : Gl g w5.drew := hG5.below (Below.refl _ _).drew
      have hR6 : Rd g s (pp + x.size) ov w5.drew := HR5.out
      have hO6 : Own g ov xs w5.drew := HO5.out.ch (ch_drew g w5)
      have hPl := plain_any x pp w5.drew hG6.glob (by omega) (by omega)
      cases hpl : plainT x.data.toList pp with
      | error z =>
       obtain ⟨a, er⟩ := z
       rw [hpl] at hPl hT
       refine hPl.mono ?_
       rintro e w6 ⟨he, hb6⟩
       obtain rfl : e = _ := he
       subst hT
       dsimp only
       exact ⟨rfl, rfl, HB.out.trans (HC5.out.1.trans ((Below.refl g w5).drew.trans (hb6.mono (Nat.le_of_lt HR5.out.lt))))⟩
      | ok z =>
       obtain ⟨tx, rfl⟩ : ∃ tx : ByteArray, tx.data.toList = z := ⟨⟨z.toArray⟩, rfl⟩
       rw [hpl] at hPl hT hle
       have hq := hle _ _ rfl
       have HT2 := Lib.hid (show tkT s kk (pp + x.size) (putT xs ⟨3, ⟨#[]⟩, tx, [], false, (pp : Int)⟩) = R from hT)
       have hq2 : (putT xs ⟨3, ⟨#[]⟩, tx, [], false, (pp : Int)⟩).length ≤ xs.length + 1 := hq.2.2
       clear hT hle
       refine hPl.mono ?_
       rintro e w6 ⟨he, hb6⟩
       obtain rfl : e = .returned (.string tx) := he
       have hC6 : Ch g w5 w6 := (ch_drew g w5).trans (Ch.of_below hb6 (Nat.le_of_lt HR5.out.lt))
       have hV6 := hC6.2.blk HV5.out (Nat.ne_of_gt hlt) (by simp)
       have hR7 : Rd g s (pp + x.size) ov w6 := hR6.below hb6
       have hO7 := HO5.out.ch hC6
       dsimp only
       refine hK.out _ _ ((cell_of_row _ _ 0 _ _ _ hV6).trans rfl) (fun hHeld => ?_)
       clear hK K
       refine pure_ (i := 5) (N := some 78) (v := ?_) (a' := ?_) (ms5 6 1) rfl rfl (by kernel_rfl) (fun _ _ _ h => h) (Or.inl ⟨by rfl, ?_⟩) ?_ ?_
       rotate_left
       ·
        intro w'
        go_simp
        with_reducible rfl
       rotate_left
       ·
        simp only [Act.put, List.setIfInBounds_toArray, List.set_cons_zero, List.set_cons_succ]
        rfl
       refine last_ (i := 6) (N := some 79) (ms5 7 0) rfl rfl (by kernel_rfl) (by decide) (fun K hK => ?_)
       rw [if_pos (by rfl)]
       go_simp
       refine (put_any g s (pp + x.size) ov (.slice none 0 0) xs ⟨3, ⟨#[]⟩, tx, [], false, (pp : Int)⟩ (fun k => g < k) (fun _ => False) w6 hR7 hO7 (Kd.R_nil _ _ _ _ _) (fun k hk => ⟨hk, fun h => h⟩) (fun _ h => h.elim) (by have := HL.out; omega)).mono ?_
       rintro e w7 ⟨rfl, ov7, hR8, hO8, hB8, hK8⟩
       have hV8 := hK8.blk hV6 (Nat.ne_of_gt hlt) (blk_ne_own hO7 hV6)
       have hCC := HB.out.trans (HC5.out.1.trans (hC6.1.trans hB8))
       dsimp only
       refine hK.out _ _ ?_
       clear hK K
       refine done_ (by kernel_rfl) ?_
       go_wp2_with fail
       go_roundg kk
       case measure => omega
       case rel => exact ⟨pp + x.size, _, ov7, ⟨hq.2.1⟩, ⟨by have := HK.out; omega⟩, ⟨by have := HL.out; omega⟩, ⟨HT2.out⟩, ⟨hR8⟩, ⟨hO8⟩, ⟨hCC⟩, ⟨hV8⟩⟩
     | some j =>
      rw [hfo] at hIdx
      match j, hIdx, hfo with
      | 0, hIdx, hfo =>
       have hz : formZ (some 0) = 0 := rfl
       rw [hz] at hIdx
       have htk : tk1T s pp xs = form1R s (pp + 4) xs := by unfold tk1T; rw [hfo]; rfl
       rw [htk] at hT
       have hpl : pp + 4 ≤ s.size := by
        have := (formI_le (rs s pp)).1 hfo
        rw [rs_len] at this
        omega
       have hle := fun q ys (h : form1R s (pp + 4) xs = .ok (q, ys)) => tk1_le hlt2 (htk.trans h)
       clear htk hfo hz
       refine hIdx.mono ?_
       rintro e w3 ⟨rfl, hb3⟩
       have hB13 : Below wr.heap.size wr w3 := hB1.trans (hb3.mono hB1.size)
       have hR3 := HRd.out.below hB13
       have hV3 := cellBelow hB13 HV.out
       have hgw3 : g < w3.heap.size := hR3.lt
       have hvw3 : w.heap.size < w3.heap.size := World.block_lt_of_cell? w3 _ hV3
       clear hIdx
       go_wp2_with fail
       refine (forms_any _).mono ?_
       rintro e w4 ⟨rfl, rfl⟩
       have hfc := cells_alloc w3 formCells 130
       have k0 := (cell_of_row _ _ 0 _ _ _ hfc).trans (show formCells[0]? = some (.string ⟨#[60, 33, 45, 45]⟩) from rfl)
       have k1 := (cell_of_row _ _ 1 _ _ _ hfc).trans (show formCells[1]? = some (.func (.func 124) #[] #[]) from rfl)
       clear hfc
       have hBa : Below w3.heap.size w3 (w3.alloc (.cells formCells 130)) := below_alloc (Below.refl _ _) _
       have hBb : Below w3.heap.size w3 ((w3.alloc (.cells formCells 130)).alloc (.cells #[.string ⟨#[60, 33, 45, 45]⟩, .func (.func 124) #[] #[]] 130)) := below_alloc hBa _
       have hsz4 : (w3.alloc (.cells formCells 130)).heap.size = w3.heap.size + 1 := by simp
       have hfb := cells_alloc (w3.alloc (.cells formCells 130)) #[.string ⟨#[60, 33, 45, 45]⟩, .func (.func 124) #[] #[]] 130
       rw [hsz4] at hfb
       have m0 := crow 0 (Value.string ⟨#[60, 33, 45, 45]⟩) hfb
       have m1 := crow 1 (Value.func (.func 124) #[] #[]) hfb
       have hR5 := hR3.below hBb
       have hV5 := cellBelow hBb hV3
       have c1 := hR5.at_ 1
       have f1 := hR5.free 1
       simp at c1
       have HR5 := Lib.hid hR5
       have HFB := Lib.hid hfb
       have HR3 := Lib.hid hR3
       clear hR5 hfb hR3 hV3
       go_wp2_with fail
       go_region
       all_goals
        have hC3s : Ch g wr (w3.setCell ⟨g, 1, none⟩ (.int .i64 ((pp + 4 : Nat) : Int))) := (Ch.of_below hB13 (Nat.le_of_lt HRd.out.lt)).set 1 _
        have hR3s : Rd g s (pp + 4) ov (w3.setCell ⟨g, 1, none⟩ (.int .i64 ((pp + 4 : Nat) : Int))) := Rd.put (p := pp) HR3.out (pp + 4)
        have hsz6 : (w3.setCell ⟨g, 1, none⟩ (.int .i64 ((pp + 4 : Nat) : Int))).heap.size = w3.heap.size := by simp [World.setCell]
        have hBA : Below (w3.setCell ⟨g, 1, none⟩ (.int .i64 ((pp + 4 : Nat) : Int))).heap.size (w3.setCell ⟨g, 1, none⟩ (.int .i64 ((pp + 4 : Nat) : Int))) ((((w3.setCell ⟨g, 1, none⟩ (.int .i64 ((pp + 4 : Nat) : Int))).alloc (.cells formCells 130)).alloc (.cells #[.string ⟨#[60, 33, 45, 45]⟩, .func (.func 124) #[] #[]] 130)).drew) := (below_alloc (below_alloc (Below.refl _ _) _) _).drew
        have hC6 : Ch g wr ((((w3.setCell ⟨g, 1, none⟩ (.int .i64 ((pp + 4 : Nat) : Int))).alloc (.cells formCells 130)).alloc (.cells #[.string ⟨#[60, 33, 45, 45]⟩, .func (.func 124) #[] #[]] 130)).drew) := hC3s.trans (Ch.of_below hBA (by rw [hsz6]; exact Nat.le_of_lt hgw3))
        have hR6 : Rd g s (pp + 4) ov ((((w3.setCell ⟨g, 1, none⟩ (.int .i64 ((pp + 4 : Nat) : Int))).alloc (.cells formCells 130)).alloc (.cells #[.string ⟨#[60, 33, 45, 45]⟩, .func (.func 124) #[] #[]] 130)).drew) := hR3s.below hBA
        have hO6 := HO.out.ch hC6
        have hG6 : Gl g ((((w3.setCell ⟨g, 1, none⟩ (.int .i64 ((pp + 4 : Nat) : Int))).alloc (.cells formCells 130)).alloc (.cells #[.string ⟨#[60, 33, 45, 45]⟩, .func (.func 124) #[] #[]] 130)).drew) := hG.ch (HB.out.trans hC6.1)
        have hV6 := hC6.2.blk HVb.out (Nat.ne_of_gt hlt) (by simp)
        have hFm := form1_any g s pp ov xs _ hR6 hO6 hG6 hpl hs
        have hfb6 : ((((w3.setCell ⟨g, 1, none⟩ (.int .i64 ((pp + 4 : Nat) : Int))).alloc (.cells formCells 130)).alloc (.cells #[.string ⟨#[60, 33, 45, 45]⟩, .func (.func 124) #[] #[]] 130)).drew).heap[w3.heap.size + 1]? = some (.cells #[.string ⟨#[60, 33, 45, 45]⟩, .func (.func 124) #[] #[]] 130 (0, 0)) := by
         have := cells_alloc ((w3.setCell ⟨g, 1, none⟩ (.int .i64 ((pp + 4 : Nat) : Int))).alloc (.cells formCells 130)) #[.string ⟨#[60, 33, 45, 45]⟩, .func (.func 124) #[] #[]] 130
         rw [show ((w3.setCell ⟨g, 1, none⟩ (.int .i64 ((pp + 4 : Nat) : Int))).alloc (.cells formCells 130)).heap.size = w3.heap.size + 1 by simp [World.setCell]] at this
         exact this
        have n0 := crow 1 (Value.func (.func 124) #[] #[]) hfb6
        have n1 := crow 0 (Value.pointer (some ⟨g, 0, none⟩)) hV6
        clear hfb6 hC3s hR3s hBA
        have p0 : (((w3.setCell ⟨g, 1, none⟩ (.int .i64 ((pp : Int) + 4))).alloc (.cells formCells 130)).alloc (.cells #[.string ⟨#[60, 33, 45, 45]⟩, .func (.func 124) #[] #[]] 130)).cell? ⟨w3.heap.size + 1, 1, none⟩ = some (.func (.func 124) #[] #[]) := n0
        have p1 : (((w3.setCell ⟨g, 1, none⟩ (.int .i64 ((pp : Int) + 4))).alloc (.cells formCells 130)).alloc (.cells #[.string ⟨#[60, 33, 45, 45]⟩, .func (.func 124) #[] #[]] 130)).cell? ⟨w.heap.size, 0, none⟩ = some (.pointer (some ⟨g, 0, none⟩)) := n1
        clear n0 n1
        have HFm := Lib.hid hFm
        have HV6 := Lib.hid hV6
        have HC6 := Lib.hid hC6
        have HO6 := Lib.hid hO6
        clear hFm hV6 hC6 hO6 hR6 hG6 c0 c1 f1 k0 k1 m0 m1 hV5 hsz6
        go_wp2_with fail
        refine (HFm.out).mono ?_
        rintro e w7 hr7
        cases hfr : form1R s (pp + 4) xs with
        | error x =>
         obtain ⟨a, er⟩ := x
         rw [hfr] at hT hr7
         obtain ⟨he, hb7⟩ := hr7
         obtain rfl : e = _ := he
         subst hT
         go_wp2_with fail
         exact ⟨rfl, rfl, HB.out.trans (HC6.out.1.trans hb7)⟩
        | ok x =>
         obtain ⟨q, ys⟩ := x
         have hq := hle q ys hfr
         rw [hfr] at hT hr7
         obtain ⟨rfl, ov7, hR7, hO7, hB7, hK7⟩ := hr7
         have hV7 := hK7.blk HV6.out (Nat.ne_of_gt hlt) (blk_ne_own HO6.out HV6.out)
         have HT2 := Lib.hid (show tkT s kk q ys = R from hT)
         have hCC := HB.out.trans (HC6.out.1.trans hB7)
         clear hT hle HFm
         go_wp2_with fail
         go_roundg kk
         case measure => omega
         case rel => exact ⟨q, ys, ov7, ⟨hq.2.1⟩, ⟨by have := HK.out; omega⟩, ⟨by have := HL.out; omega⟩, ⟨HT2.out⟩, ⟨hR7⟩, ⟨hO7⟩, ⟨hCC⟩, ⟨hV7⟩⟩
      | 1, hIdx, hfo =>
       have hz : formZ (some 1) = 1 := rfl
       rw [hz] at hIdx
       have htk : tk1T s pp xs = form2T s (pp + 9) xs := by unfold tk1T; rw [hfo]; rfl
       rw [htk] at hT
       have hpl : pp + 9 ≤ s.size := by
        have := (formI_le (rs s pp)).2.1 hfo
        rw [rs_len] at this
        omega
       have hle := fun q ys (h : form2T s (pp + 9) xs = .ok (q, ys)) => tk1_le hlt2 (htk.trans h)
       clear htk hfo hz
       refine hIdx.mono ?_
       rintro e w3 ⟨rfl, hb3⟩
       have hB13 : Below wr.heap.size wr w3 := hB1.trans (hb3.mono hB1.size)
       have hR3 := HRd.out.below hB13
       have hV3 := cellBelow hB13 HV.out
       have hgw3 : g < w3.heap.size := hR3.lt
       have hvw3 : w.heap.size < w3.heap.size := World.block_lt_of_cell? w3 _ hV3
       clear hIdx
       go_wp2_with fail
       refine (forms_any _).mono ?_
       rintro e w4 ⟨rfl, rfl⟩
       have hfc := cells_alloc w3 formCells 130
       have k0 := (cell_of_row _ _ 2 _ _ _ hfc).trans (show formCells[2]? = some (.string ⟨#[60, 33, 91, 67, 68, 65, 84, 65, 91]⟩) from rfl)
       have k1 := (cell_of_row _ _ 3 _ _ _ hfc).trans (show formCells[3]? = some (.func (.func 125) #[] #[]) from rfl)
       clear hfc
       have hBa : Below w3.heap.size w3 (w3.alloc (.cells formCells 130)) := below_alloc (Below.refl _ _) _
       have hBb : Below w3.heap.size w3 ((w3.alloc (.cells formCells 130)).alloc (.cells #[.string ⟨#[60, 33, 91, 67, 68, 65, 84, 65, 91]⟩, .func (.func 125) #[] #[]] 130)) := below_alloc hBa _
       have hsz4 : (w3.alloc (.cells formCells 130)).heap.size = w3.heap.size + 1 := by simp
       have hfb := cells_alloc (w3.alloc (.cells formCells 130)) #[.string ⟨#[60, 33, 91, 67, 68, 65, 84, 65, 91]⟩, .func (.func 125) #[] #[]] 130
       rw [hsz4] at hfb
       have m0 := crow 0 (Value.string ⟨#[60, 33, 91, 67, 68, 65, 84, 65, 91]⟩) hfb
       have m1 := crow 1 (Value.func (.func 125) #[] #[]) hfb
       have hR5 := hR3.below hBb
       have hV5 := cellBelow hBb hV3
       have c1 := hR5.at_ 1
       have f1 := hR5.free 1
       simp at c1
       have HR5 := Lib.hid hR5
       have HFB := Lib.hid hfb
       have HR3 := Lib.hid hR3
       clear hR5 hfb hR3 hV3
       go_wp2_with fail
       go_region
       all_goals
        have hC3s : Ch g wr (w3.setCell ⟨g, 1, none⟩ (.int .i64 ((pp + 9 : Nat) : Int))) := (Ch.of_below hB13 (Nat.le_of_lt HRd.out.lt)).set 1 _
        have hR3s : Rd g s (pp + 9) ov (w3.setCell ⟨g, 1, none⟩ (.int .i64 ((pp + 9 : Nat) : Int))) := Rd.put (p := pp) HR3.out (pp + 9)
        have hsz6 : (w3.setCell ⟨g, 1, none⟩ (.int .i64 ((pp + 9 : Nat) : Int))).heap.size = w3.heap.size := by simp [World.setCell]
        have hBA : Below (w3.setCell ⟨g, 1, none⟩ (.int .i64 ((pp + 9 : Nat) : Int))).heap.size (w3.setCell ⟨g, 1, none⟩ (.int .i64 ((pp + 9 : Nat) : Int))) ((((w3.setCell ⟨g, 1, none⟩ (.int .i64 ((pp + 9 : Nat) : Int))).alloc (.cells formCells 130)).alloc (.cells #[.string ⟨#[60, 33, 91, 67, 68, 65, 84, 65, 91]⟩, .func (.func 125) #[] #[]] 130)).drew) := (below_alloc (below_alloc (Below.refl _ _) _) _).drew
        have hC6 : Ch g wr ((((w3.setCell ⟨g, 1, none⟩ (.int .i64 ((pp + 9 : Nat) : Int))).alloc (.cells formCells 130)).alloc (.cells #[.string ⟨#[60, 33, 91, 67, 68, 65, 84, 65, 91]⟩, .func (.func 125) #[] #[]] 130)).drew) := hC3s.trans (Ch.of_below hBA (by rw [hsz6]; exact Nat.le_of_lt hgw3))
        have hR6 : Rd g s (pp + 9) ov ((((w3.setCell ⟨g, 1, none⟩ (.int .i64 ((pp + 9 : Nat) : Int))).alloc (.cells formCells 130)).alloc (.cells #[.string ⟨#[60, 33, 91, 67, 68, 65, 84, 65, 91]⟩, .func (.func 125) #[] #[]] 130)).drew) := hR3s.below hBA
        have hO6 := HO.out.ch hC6
        have hG6 : Gl g ((((w3.setCell ⟨g, 1, none⟩ (.int .i64 ((pp + 9 : Nat) : Int))).alloc (.cells formCells 130)).alloc (.cells #[.string ⟨#[60, 33, 91, 67, 68, 65, 84, 65, 91]⟩, .func (.func 125) #[] #[]] 130)).drew) := hG.ch (HB.out.trans hC6.1)
        have hV6 := hC6.2.blk HVb.out (Nat.ne_of_gt hlt) (by simp)
        have hFm := form2_any g s pp ov xs _ hR6 hO6 hG6 hpl hs (by have := HL.out; omega)
        have hfb6 : ((((w3.setCell ⟨g, 1, none⟩ (.int .i64 ((pp + 9 : Nat) : Int))).alloc (.cells formCells 130)).alloc (.cells #[.string ⟨#[60, 33, 91, 67, 68, 65, 84, 65, 91]⟩, .func (.func 125) #[] #[]] 130)).drew).heap[w3.heap.size + 1]? = some (.cells #[.string ⟨#[60, 33, 91, 67, 68, 65, 84, 65, 91]⟩, .func (.func 125) #[] #[]] 130 (0, 0)) := by
         have := cells_alloc ((w3.setCell ⟨g, 1, none⟩ (.int .i64 ((pp + 9 : Nat) : Int))).alloc (.cells formCells 130)) #[.string ⟨#[60, 33, 91, 67, 68, 65, 84, 65, 91]⟩, .func (.func 125) #[] #[]] 130
         rw [show ((w3.setCell ⟨g, 1, none⟩ (.int .i64 ((pp + 9 : Nat) : Int))).alloc (.cells formCells 130)).heap.size = w3.heap.size + 1 by simp [World.setCell]] at this
         exact this
        have n0 := crow 1 (Value.func (.func 125) #[] #[]) hfb6
        have n1 := crow 0 (Value.pointer (some ⟨g, 0, none⟩)) hV6
        clear hfb6 hC3s hR3s hBA
        have p0 : (((w3.setCell ⟨g, 1, none⟩ (.int .i64 ((pp : Int) + 9))).alloc (.cells formCells 130)).alloc (.cells #[.string ⟨#[60, 33, 91, 67, 68, 65, 84, 65, 91]⟩, .func (.func 125) #[] #[]] 130)).cell? ⟨w3.heap.size + 1, 1, none⟩ = some (.func (.func 125) #[] #[]) := n0
        have p1 : (((w3.setCell ⟨g, 1, none⟩ (.int .i64 ((pp : Int) + 9))).alloc (.cells formCells 130)).alloc (.cells #[.string ⟨#[60, 33, 91, 67, 68, 65, 84, 65, 91]⟩, .func (.func 125) #[] #[]] 130)).cell? ⟨w.heap.size, 0, none⟩ = some (.pointer (some ⟨g, 0, none⟩)) := n1
        clear n0 n1
        have HFm := Lib.hid hFm
        have HV6 := Lib.hid hV6
        have HC6 := Lib.hid hC6
        have HO6 := Lib.hid hO6
        clear hFm hV6 hC6 hO6 hR6 hG6 c0 c1 f1 k0 k1 m0 m1 hV5 hsz6
        go_wp2_with fail
        refine (HFm.out).mono ?_
        rintro e w7 hr7
        cases hfr : form2T s (pp + 9) xs with
        | error x =>
         obtain ⟨a, er⟩ := x
         rw [hfr] at hT hr7
         obtain ⟨he, hb7⟩ := hr7
         obtain rfl : e = _ := he
         subst hT
         go_wp2_with fail
         exact ⟨rfl, rfl, HB.out.trans (HC6.out.1.trans hb7)⟩
        | ok x =>
         obtain ⟨q, ys⟩ := x
         have hq := hle q ys hfr
         rw [hfr] at hT hr7
         obtain ⟨rfl, ov7, hR7, hO7, hB7, hK7⟩ := hr7
         have hV7 := hK7.blk HV6.out (Nat.ne_of_gt hlt) (blk_ne_own HO6.out HV6.out)
         have HT2 := Lib.hid (show tkT s kk q ys = R from hT)
         have hCC := HB.out.trans (HC6.out.1.trans hB7)
         clear hT hle HFm
         go_wp2_with fail
         go_roundg kk
         case measure => omega
         case rel => exact ⟨q, ys, ov7, ⟨hq.2.1⟩, ⟨by have := HK.out; omega⟩, ⟨by have := HL.out; omega⟩, ⟨HT2.out⟩, ⟨hR7⟩, ⟨hO7⟩, ⟨hCC⟩, ⟨hV7⟩⟩
      | 2, hIdx, hfo =>
       have hz : formZ (some 2) = 2 := rfl
       rw [hz] at hIdx
       have htk : tk1T s pp xs = form3T s (pp + 2) xs := by unfold tk1T; rw [hfo]; rfl
       rw [htk] at hT
       have hpl : pp + 2 ≤ s.size := by
        have := (formI_le (rs s pp)).2.2.1 hfo
        rw [rs_len] at this
        omega
       have hle := fun q ys (h : form3T s (pp + 2) xs = .ok (q, ys)) => tk1_le hlt2 (htk.trans h)
       clear htk hfo hz
       refine hIdx.mono ?_
       rintro e w3 ⟨rfl, hb3⟩
       have hB13 : Below wr.heap.size wr w3 := hB1.trans (hb3.mono hB1.size)
       have hR3 := HRd.out.below hB13
       have hV3 := cellBelow hB13 HV.out
       have hgw3 : g < w3.heap.size := hR3.lt
       have hvw3 : w.heap.size < w3.heap.size := World.block_lt_of_cell? w3 _ hV3
       clear hIdx
       go_wp2_with fail
       refine (forms_any _).mono ?_
       rintro e w4 ⟨rfl, rfl⟩
       have hfc := cells_alloc w3 formCells 130
       have k0 := (cell_of_row _ _ 4 _ _ _ hfc).trans (show formCells[4]? = some (.string ⟨#[60, 47]⟩) from rfl)
       have k1 := (cell_of_row _ _ 5 _ _ _ hfc).trans (show formCells[5]? = some (.func (.func 126) #[] #[]) from rfl)
       clear hfc
       have hBa : Below w3.heap.size w3 (w3.alloc (.cells formCells 130)) := below_alloc (Below.refl _ _) _
       have hBb : Below w3.heap.size w3 ((w3.alloc (.cells formCells 130)).alloc (.cells #[.string ⟨#[60, 47]⟩, .func (.func 126) #[] #[]] 130)) := below_alloc hBa _
       have hsz4 : (w3.alloc (.cells formCells 130)).heap.size = w3.heap.size + 1 := by simp
       have hfb := cells_alloc (w3.alloc (.cells formCells 130)) #[.string ⟨#[60, 47]⟩, .func (.func 126) #[] #[]] 130
       rw [hsz4] at hfb
       have m0 := crow 0 (Value.string ⟨#[60, 47]⟩) hfb
       have m1 := crow 1 (Value.func (.func 126) #[] #[]) hfb
       have hR5 := hR3.below hBb
       have hV5 := cellBelow hBb hV3
       have c1 := hR5.at_ 1
       have f1 := hR5.free 1
       simp at c1
       have HR5 := Lib.hid hR5
       have HFB := Lib.hid hfb
       have HR3 := Lib.hid hR3
       clear hR5 hfb hR3 hV3
       go_wp2_with fail
       go_region
       all_goals
        have hC3s : Ch g wr (w3.setCell ⟨g, 1, none⟩ (.int .i64 ((pp + 2 : Nat) : Int))) := (Ch.of_below hB13 (Nat.le_of_lt HRd.out.lt)).set 1 _
        have hR3s : Rd g s (pp + 2) ov (w3.setCell ⟨g, 1, none⟩ (.int .i64 ((pp + 2 : Nat) : Int))) := Rd.put (p := pp) HR3.out (pp + 2)
        have hsz6 : (w3.setCell ⟨g, 1, none⟩ (.int .i64 ((pp + 2 : Nat) : Int))).heap.size = w3.heap.size := by simp [World.setCell]
        have hBA : Below (w3.setCell ⟨g, 1, none⟩ (.int .i64 ((pp + 2 : Nat) : Int))).heap.size (w3.setCell ⟨g, 1, none⟩ (.int .i64 ((pp + 2 : Nat) : Int))) ((((w3.setCell ⟨g, 1, none⟩ (.int .i64 ((pp + 2 : Nat) : Int))).alloc (.cells formCells 130)).alloc (.cells #[.string ⟨#[60, 47]⟩, .func (.func 126) #[] #[]] 130)).drew) := (below_alloc (below_alloc (Below.refl _ _) _) _).drew
        have hC6 : Ch g wr ((((w3.setCell ⟨g, 1, none⟩ (.int .i64 ((pp + 2 : Nat) : Int))).alloc (.cells formCells 130)).alloc (.cells #[.string ⟨#[60, 47]⟩, .func (.func 126) #[] #[]] 130)).drew) := hC3s.trans (Ch.of_below hBA (by rw [hsz6]; exact Nat.le_of_lt hgw3))
        have hR6 : Rd g s (pp + 2) ov ((((w3.setCell ⟨g, 1, none⟩ (.int .i64 ((pp + 2 : Nat) : Int))).alloc (.cells formCells 130)).alloc (.cells #[.string ⟨#[60, 47]⟩, .func (.func 126) #[] #[]] 130)).drew) := hR3s.below hBA
        have hO6 := HO.out.ch hC6
        have hG6 : Gl g ((((w3.setCell ⟨g, 1, none⟩ (.int .i64 ((pp + 2 : Nat) : Int))).alloc (.cells formCells 130)).alloc (.cells #[.string ⟨#[60, 47]⟩, .func (.func 126) #[] #[]] 130)).drew) := hG.ch (HB.out.trans hC6.1)
        have hV6 := hC6.2.blk HVb.out (Nat.ne_of_gt hlt) (by simp)
        have hFm := form3_any g s pp ov xs _ hR6 hO6 hG6 hpl hs (by have := HL.out; omega)
        have hfb6 : ((((w3.setCell ⟨g, 1, none⟩ (.int .i64 ((pp + 2 : Nat) : Int))).alloc (.cells formCells 130)).alloc (.cells #[.string ⟨#[60, 47]⟩, .func (.func 126) #[] #[]] 130)).drew).heap[w3.heap.size + 1]? = some (.cells #[.string ⟨#[60, 47]⟩, .func (.func 126) #[] #[]] 130 (0, 0)) := by
         have := cells_alloc ((w3.setCell ⟨g, 1, none⟩ (.int .i64 ((pp + 2 : Nat) : Int))).alloc (.cells formCells 130)) #[.string ⟨#[60, 47]⟩, .func (.func 126) #[] #[]] 130
         rw [show ((w3.setCell ⟨g, 1, none⟩ (.int .i64 ((pp + 2 : Nat) : Int))).alloc (.cells formCells 130)).heap.size = w3.heap.size + 1 by simp [World.setCell]] at this
         exact this
        have n0 := crow 1 (Value.func (.func 126) #[] #[]) hfb6
        have n1 := crow 0 (Value.pointer (some ⟨g, 0, none⟩)) hV6
        clear hfb6 hC3s hR3s hBA
        have p0 : (((w3.setCell ⟨g, 1, none⟩ (.int .i64 ((pp : Int) + 2))).alloc (.cells formCells 130)).alloc (.cells #[.string ⟨#[60, 47]⟩, .func (.func 126) #[] #[]] 130)).cell? ⟨w3.heap.size + 1, 1, none⟩ = some (.func (.func 126) #[] #[]) := n0
        have p1 : (((w3.setCell ⟨g, 1, none⟩ (.int .i64 ((pp : Int) + 2))).alloc (.cells formCells 130)).alloc (.cells #[.string ⟨#[60, 47]⟩, .func (.func 126) #[] #[]] 130)).cell? ⟨w.heap.size, 0, none⟩ = some (.pointer (some ⟨g, 0, none⟩)) := n1
        clear n0 n1
        have HFm := Lib.hid hFm
        have HV6 := Lib.hid hV6
        have HC6 := Lib.hid hC6
        have HO6 := Lib.hid hO6
        clear hFm hV6 hC6 hO6 hR6 hG6 c0 c1 f1 k0 k1 m0 m1 hV5 hsz6
        go_wp2_with fail
        refine (HFm.out).mono ?_
        rintro e w7 hr7
        cases hfr : form3T s (pp + 2) xs with
        | error x =>
         obtain ⟨a, er⟩ := x
         rw [hfr] at hT hr7
         obtain ⟨he, hb7⟩ := hr7
         obtain rfl : e = _ := he
         subst hT
         go_wp2_with fail
         exact ⟨rfl, rfl, HB.out.trans (HC6.out.1.trans hb7)⟩
        | ok x =>
         obtain ⟨q, ys⟩ := x
         have hq := hle q ys hfr
         rw [hfr] at hT hr7
         obtain ⟨rfl, ov7, hR7, hO7, hB7, hK7⟩ := hr7
         have hV7 := hK7.blk HV6.out (Nat.ne_of_gt hlt) (blk_ne_own HO6.out HV6.out)
         have HT2 := Lib.hid (show tkT s kk q ys = R from hT)
         have hCC := HB.out.trans (HC6.out.1.trans hB7)
         clear hT hle HFm
         go_wp2_with fail
         go_roundg kk
         case measure => omega
         case rel => exact ⟨q, ys, ov7, ⟨hq.2.1⟩, ⟨by have := HK.out; omega⟩, ⟨by have := HL.out; omega⟩, ⟨HT2.out⟩, ⟨hR7⟩, ⟨hO7⟩, ⟨hCC⟩, ⟨hV7⟩⟩
      | 3, hIdx, hfo =>
       have hz : formZ (some 3) = 3 := rfl
       rw [hz] at hIdx
       have htk : tk1T s pp xs = form4T s (pp + 1) xs := by unfold tk1T; rw [hfo]; rfl
       rw [htk] at hT
       have hpl : pp + 1 ≤ s.size := by
        have := (formI_le (rs s pp)).2.2.2.1 hfo
        rw [rs_len] at this
        omega
       have hle := fun q ys (h : form4T s (pp + 1) xs = .ok (q, ys)) => tk1_le hlt2 (htk.trans h)
       clear htk hfo hz
       refine hIdx.mono ?_
       rintro e w3 ⟨rfl, hb3⟩
       have hB13 : Below wr.heap.size wr w3 := hB1.trans (hb3.mono hB1.size)
       have hR3 := HRd.out.below hB13
       have hV3 := cellBelow hB13 HV.out
       have hgw3 : g < w3.heap.size := hR3.lt
       have hvw3 : w.heap.size < w3.heap.size := World.block_lt_of_cell? w3 _ hV3
       clear hIdx
       go_wp2_with fail
       refine (forms_any _).mono ?_
       rintro e w4 ⟨rfl, rfl⟩
       have hfc := cells_alloc w3 formCells 130
       have k0 := (cell_of_row _ _ 6 _ _ _ hfc).trans (show formCells[6]? = some (.string ⟨#[60]⟩) from rfl)
       have k1 := (cell_of_row _ _ 7 _ _ _ hfc).trans (show formCells[7]? = some (.func (.func 130) #[] #[]) from rfl)
       clear hfc
       have hBa : Below w3.heap.size w3 (w3.alloc (.cells formCells 130)) := below_alloc (Below.refl _ _) _
       have hBb : Below w3.heap.size w3 ((w3.alloc (.cells formCells 130)).alloc (.cells #[.string ⟨#[60]⟩, .func (.func 130) #[] #[]] 130)) := below_alloc hBa _
       have hsz4 : (w3.alloc (.cells formCells 130)).heap.size = w3.heap.size + 1 := by simp
       have hfb := cells_alloc (w3.alloc (.cells formCells 130)) #[.string ⟨#[60]⟩, .func (.func 130) #[] #[]] 130
       rw [hsz4] at hfb
       have m0 := crow 0 (Value.string ⟨#[60]⟩) hfb
       have m1 := crow 1 (Value.func (.func 130) #[] #[]) hfb
       have hR5 := hR3.below hBb
       have hV5 := cellBelow hBb hV3
       have c1 := hR5.at_ 1
       have f1 := hR5.free 1
       simp at c1
       have HR5 := Lib.hid hR5
       have HFB := Lib.hid hfb
       have HR3 := Lib.hid hR3
       clear hR5 hfb hR3 hV3
       go_wp2_with fail
       go_region
       all_goals
        have hC3s : Ch g wr (w3.setCell ⟨g, 1, none⟩ (.int .i64 ((pp + 1 : Nat) : Int))) := (Ch.of_below hB13 (Nat.le_of_lt HRd.out.lt)).set 1 _
        have hR3s : Rd g s (pp + 1) ov (w3.setCell ⟨g, 1, none⟩ (.int .i64 ((pp + 1 : Nat) : Int))) := Rd.put (p := pp) HR3.out (pp + 1)
        have hsz6 : (w3.setCell ⟨g, 1, none⟩ (.int .i64 ((pp + 1 : Nat) : Int))).heap.size = w3.heap.size := by simp [World.setCell]
        have hBA : Below (w3.setCell ⟨g, 1, none⟩ (.int .i64 ((pp + 1 : Nat) : Int))).heap.size (w3.setCell ⟨g, 1, none⟩ (.int .i64 ((pp + 1 : Nat) : Int))) ((((w3.setCell ⟨g, 1, none⟩ (.int .i64 ((pp + 1 : Nat) : Int))).alloc (.cells formCells 130)).alloc (.cells #[.string ⟨#[60]⟩, .func (.func 130) #[] #[]] 130)).drew) := (below_alloc (below_alloc (Below.refl _ _) _) _).drew
        have hC6 : Ch g wr ((((w3.setCell ⟨g, 1, none⟩ (.int .i64 ((pp + 1 : Nat) : Int))).alloc (.cells formCells 130)).alloc (.cells #[.string ⟨#[60]⟩, .func (.func 130) #[] #[]] 130)).drew) := hC3s.trans (Ch.of_below hBA (by rw [hsz6]; exact Nat.le_of_lt hgw3))
        have hR6 : Rd g s (pp + 1) ov ((((w3.setCell ⟨g, 1, none⟩ (.int .i64 ((pp + 1 : Nat) : Int))).alloc (.cells formCells 130)).alloc (.cells #[.string ⟨#[60]⟩, .func (.func 130) #[] #[]] 130)).drew) := hR3s.below hBA
        have hO6 := HO.out.ch hC6
        have hG6 : Gl g ((((w3.setCell ⟨g, 1, none⟩ (.int .i64 ((pp + 1 : Nat) : Int))).alloc (.cells formCells 130)).alloc (.cells #[.string ⟨#[60]⟩, .func (.func 130) #[] #[]] 130)).drew) := hG.ch (HB.out.trans hC6.1)
        have hV6 := hC6.2.blk HVb.out (Nat.ne_of_gt hlt) (by simp)
        have hFm := form4_any g s pp ov xs _ hR6 hO6 hG6 hpl hs (by have := HL.out; omega)
        have hfb6 : ((((w3.setCell ⟨g, 1, none⟩ (.int .i64 ((pp + 1 : Nat) : Int))).alloc (.cells formCells 130)).alloc (.cells #[.string ⟨#[60]⟩, .func (.func 130) #[] #[]] 130)).drew).heap[w3.heap.size + 1]? = some (.cells #[.string ⟨#[60]⟩, .func (.func 130) #[] #[]] 130 (0, 0)) := by
         have := cells_alloc ((w3.setCell ⟨g, 1, none⟩ (.int .i64 ((pp + 1 : Nat) : Int))).alloc (.cells formCells 130)) #[.string ⟨#[60]⟩, .func (.func 130) #[] #[]] 130
         rw [show ((w3.setCell ⟨g, 1, none⟩ (.int .i64 ((pp + 1 : Nat) : Int))).alloc (.cells formCells 130)).heap.size = w3.heap.size + 1 by simp [World.setCell]] at this
         exact this
        have n0 := crow 1 (Value.func (.func 130) #[] #[]) hfb6
        have n1 := crow 0 (Value.pointer (some ⟨g, 0, none⟩)) hV6
        clear hfb6 hC3s hR3s hBA
        have p0 : (((w3.setCell ⟨g, 1, none⟩ (.int .i64 ((pp : Int) + 1))).alloc (.cells formCells 130)).alloc (.cells #[.string ⟨#[60]⟩, .func (.func 130) #[] #[]] 130)).cell? ⟨w3.heap.size + 1, 1, none⟩ = some (.func (.func 130) #[] #[]) := n0
        have p1 : (((w3.setCell ⟨g, 1, none⟩ (.int .i64 ((pp : Int) + 1))).alloc (.cells formCells 130)).alloc (.cells #[.string ⟨#[60]⟩, .func (.func 130) #[] #[]] 130)).cell? ⟨w.heap.size, 0, none⟩ = some (.pointer (some ⟨g, 0, none⟩)) := n1
        clear n0 n1
        have HFm := Lib.hid hFm
        have HV6 := Lib.hid hV6
        have HC6 := Lib.hid hC6
        have HO6 := Lib.hid hO6
        clear hFm hV6 hC6 hO6 hR6 hG6 c0 c1 f1 k0 k1 m0 m1 hV5 hsz6
        go_wp2_with fail
        refine (HFm.out).mono ?_
        rintro e w7 hr7
        cases hfr : form4T s (pp + 1) xs with
        | error x =>
         obtain ⟨a, er⟩ := x
         rw [hfr] at hT hr7
         obtain ⟨he, hb7⟩ := hr7
         obtain rfl : e = _ := he
         subst hT
         go_wp2_with fail
         exact ⟨rfl, rfl, HB.out.trans (HC6.out.1.trans hb7)⟩
        | ok x =>
         obtain ⟨q, ys⟩ := x
         have hq := hle q ys hfr
         rw [hfr] at hT hr7
         obtain ⟨rfl, ov7, hR7, hO7, hB7, hK7⟩ := hr7
         have hV7 := hK7.blk HV6.out (Nat.ne_of_gt hlt) (blk_ne_own HO6.out HV6.out)
         have HT2 := Lib.hid (show tkT s kk q ys = R from hT)
         have hCC := HB.out.trans (HC6.out.1.trans hB7)
         clear hT hle HFm
         go_wp2_with fail
         go_roundg kk
         case measure => omega
         case rel => exact ⟨q, ys, ov7, ⟨hq.2.1⟩, ⟨by have := HK.out; omega⟩, ⟨by have := HL.out; omega⟩, ⟨HT2.out⟩, ⟨hR7⟩, ⟨hO7⟩, ⟨hCC⟩, ⟨hV7⟩⟩
      | n + 4, hIdx, hfo => exact ((formI_le (rs s pp)).2.2.2.2 n hfo).elim
    ·
     have hd : decide (pp < s.size) = false := decide_eq_false hlt2
     rw [if_neg hlt2] at hT
     subst hT
     clear HT
     go_wp2_with fail
     refine wp_region_quiet_lit (by kernel_rfl) (by kernel_rfl) ?_
     repeat (go_big_quiet_step (fail))
     refine wpQuiet_nil ?_
     intro _ hw5
     obtain ⟨nq, hw5'⟩ := hw5
     subst hw5'
     go_wp2_with fail
     go_end0
     exact ⟨rfl, pp, ov, HRd.out.drewN _, Kd.S_drewN HO.out _, pw_below_drewN HB.out _⟩
end Go.Proofs.YtknfpggiigncpaaGreatDoor.C
