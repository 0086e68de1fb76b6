/- token's openings, forms, and the forms' begins: their contracts. -/
import Derived.Test.YtknfpggiigncpaaGreatDoorXTok5
set_option linter.unusedVariables false
set_option linter.unusedSimpArgs false
namespace Go.Proofs.YtknfpggiigncpaaGreatDoor.C
open Go.RowKit P A YtknfpggiigncpaaGreatDoorW.PrintWords YtknfpggiigncpaaGreatDoorW.PrintLast YtknfpggiigncpaaGreatDoorW.PrintMore
def selfN (s : ByteArray) (q : Nat) : Nat := if Lib.hasPrefix (rs s q) [47, 62] = true then q + 1 else q
def form4T (s : ByteArray) (p : Nat) (xs : List S44) : Except (Nat × Int) (Nat × List S44) :=
 match nameT s p with
 | .error x => .error x
 | .ok (a, q) =>
  match attrsT s (s.size + 1 - q) q [] with
  | .error x => .error x
  | .ok (l, q2) =>
   match mustT s (selfN s q2) [62] with
   | .error x => .error x
   | .ok q4 => .ok (q4, putT xs ⟨1, ⟨a.toArray⟩, ⟨#[]⟩, l, Lib.hasPrefix (rs s q2) [47, 62], ((p - 1 : Nat) : Int)⟩)
theorem attrsT_le (s : ByteArray) : ∀ (f p : Nat) (acc l : List S77) (q : Nat), p ≤ s.size → attrsT s f p acc = .ok (l, q) → q ≤ s.size ∧ p ≤ q ∧ l.length + p ≤ acc.length + q
 | 0, p, acc, l, q, hp, h => by
  simp only [attrsT] at h
  injection h with h
  injection h with h1 h2
  subst h1
  subst h2
  exact ⟨hp, Nat.le_refl _, Nat.le_refl _⟩
 | f + 1, p, acc, l, q, hp, h => by
  have hb := blankN_le (rs s p)
  rw [rs_len] at hb
  simp only [attrsT] at h
  split at h
  ·
   cases ha : attr1T s (p3T s p) acc with
   | error x => rw [ha] at h; cases h
   | ok x =>
    obtain ⟨a, p7⟩ := x
    rw [ha] at h
    have h7 : p7 ≤ s.size ∧ p < p7 := by
     unfold attr1T at ha
     cases h1 : nameT s (p3T s p) with
     | error x => rw [h1] at ha; cases ha
     | ok x =>
      obtain ⟨nm, p2⟩ := x
      have l1 := nameT_le h1 (by unfold p3T; omega)
      have hb2 := blankN_le (rs s p2)
      rw [rs_len] at hb2
      simp only [h1] at ha
      cases h2 : mustT s (p3T s p2) [61] with
      | error x => simp only [h2] at ha; cases ha
      | ok p4 =>
       have l2 := mustT_le h2 (by unfold p3T; omega)
       have hb4 := blankN_le (rs s p4)
       rw [rs_len] at hb4
       simp only [h2] at ha
       split at ha
       ·
        cases ha
       ·
        rename_i hnb
        have hps : p3T s p4 < s.size := by
         apply Decidable.byContradiction
         intro hge
         apply hnb
         have : (rs s (p3T s p4)).take 1 = [] := by
          unfold rs
          rw [List.drop_of_length_le (by rw [← Lib.size_eq]; omega)]
          rfl
         rw [this]
         exact ⟨by simp, by simp⟩
        cases h4 : untilT s (p3T s p4 + 1) ((rs s (p3T s p4)).take 1) with
        | error x => simp only [h4] at ha; cases ha
        | ok x =>
         obtain ⟨v, p7'⟩ := x
         have l4 := untilT_le h4 (by omega)
         simp only [h4] at ha
         split at ha
         ·
          cases ha
         ·
          cases h6 : plainT v (p3T s p4 + 1) with
          | error x => simp only [h6] at ha; cases ha
          | ok x =>
           simp only [h6] at ha
           injection ha with ha
           injection ha with ha1 ha2
           subst ha2
           unfold p3T at *
           omega
    have ih := attrsT_le s f p7 (acc ++ [a]) l q h7.1 h
    rw [List.length_append] at ih
    simp at ih
    omega
  ·
   injection h with h
   injection h with h1 h2
   subst h1
   subst h2
   unfold p3T
   omega
set_option maxHeartbeats 8000000 in
set_option maxRecDepth 100000 in
theorem form4_any (g : Nat) (s : ByteArray) (b : Nat) (ov : Value) (xs : List S44) (w : World) (h : Rd g s (b + 1) ov w) (hO : Own g ov xs w) (hG : Gl g w) (hp : b + 1 ≤ s.size) (hs : s.size ≤ 1048576) (hl : xs.length ≤ 1048576) :
  Calls Tryz.prog 130 #[.pointer (some ⟨g, 0, none⟩)] w (FormRes g s ov w (form4T s (b + 1) xs)) := by
 have hlt := h.lt
 have c1 := h.at_ 1
 simp at c1
 have hsub : ((b : Int) + 1) - 1 = b := by omega
 have hU := name_any g s (b + 1) ov w h hp hs
 have H := Lib.hid h
 have HO := Lib.hid hO
 obtain ⟨R, hR⟩ : ∃ R, form4T s (b + 1) xs = R := ⟨_, rfl⟩
 rw [hR]
 have HR := Lib.hid hR
 clear h hO hR
 go_enter Tryz.func130, Tryz.ntmps130
 go_wp2_with fail
 cases hu : nameT s (b + 1) with
 | error x =>
  obtain ⟨a, er⟩ := x
  rw [nameR_error hu] at hU
  have hr : Except.error (a, er) = R := by
   rw [← HR.out]
   unfold form4T
   rw [hu]
  subst hr
  refine hU.mono ?_
  rintro e w1 hr
  obtain ⟨rfl, hb⟩ := hr.error
  go_wp2_with fail
  exact ⟨rfl, rfl, hb⟩
 | ok x =>
  obtain ⟨a, q⟩ := x
  have hle := nameT_le hu hp
  rw [nameR_ok hu] at hU
  obtain ⟨y, rfl⟩ : ∃ y : ByteArray, y.data.toList = a := ⟨⟨a.toArray⟩, rfl⟩
  rw [show strV y.data.toList = .string y from rfl] at hU
  refine hU.mono ?_
  rintro e w1 hr
  obtain ⟨rfl, hR1, hC1⟩ := hr.ok
  have hlt1 := hR1.lt
  have hsz1 : w.heap.size ≤ w1.heap.size := hC1.2.1
  have hR1a := rd_alloc hR1 (.cells #[.int .u8 1, .string y, .string ⟨#[]⟩, .slice none 0 0, .bool false, .int .i64 b] 44)
  have hC1a := ch_alloc hC1 hR1.lt (.cells #[.int .u8 1, .string y, .string ⟨#[]⟩, .slice none 0 0, .bool false, .int .i64 b] 44)
  have hG1a := hG.ch hC1a.1
  have hblk := cells_alloc w1 #[.int .u8 1, .string y, .string ⟨#[]⟩, .slice none 0 0, .bool false, .int .i64 b] 44
  have HB := Lib.hid hblk
  have HR1 := Lib.hid hR1a
  clear hR1 hC1 hblk hR1a hU
  go_wp2_with fail
  have hA := attrs_any g s q ov _ HR1.out hG1a (by omega) hs
  cases ha : attrsT s (s.size + 1 - q) q [] with
  | error x =>
   obtain ⟨a, er⟩ := x
   rw [ha] at hA
   have hr : Except.error (a, er) = R := by
    rw [← HR.out]
    unfold form4T
    rw [hu]
    simp only [ha]
   subst hr
   refine hA.mono ?_
   rintro e w2 ⟨he, hb⟩
   obtain rfl : e = _ := he
   go_wp2_with fail
   exact ⟨rfl, rfl, hC1a.1.trans hb⟩
  | ok x =>
   obtain ⟨l, q2⟩ := x
   have hle2 := attrsT_le s _ q [] l q2 (by omega) ha
   rw [ha] at hA
   refine hA.mono ?_
   rintro e w2 ⟨av, rfl, hR2, hC2, hA2⟩
   clear hA
   obtain ⟨AA, cc, rfl⟩ := Kd.R_slice hA2
   have hB2 : w2.heap[w1.heap.size]? = some (.cells #[.int .u8 1, .string y, .string ⟨#[]⟩, .slice none 0 0, .bool false, .int .i64 b] 44 (0, 0)) := hC2.2.blk HB.out (Nat.ne_of_gt hlt1) (by simp)
   have k3 : w2.cell? ⟨w1.heap.size, 3, none⟩ = some (.slice none 0 0) := (cell_of_row _ _ 3 _ _ _ hB2).trans rfl
   have f3 := frozen_of_row w2 w1.heap.size 3 _ _ hB2
   have hB3 := heap_setCell_same w2 w1.heap.size 3 _ _ (.slice AA l.length cc) hB2
   have hR3 : Rd g s q2 ov (w2.setCell ⟨w1.heap.size, 3, none⟩ (.slice AA l.length cc)) := (Below.heap_setCell _ _ _ _ (Nat.ne_of_lt hlt1)).trans hR2
   have hC03 : Ch g w (w2.setCell ⟨w1.heap.size, 3, none⟩ (.slice AA l.length cc)) := ⟨(hC1a.1.trans hC2.1).setCell (p := ⟨w1.heap.size, 3, none⟩) (Nat.le_of_lt hlt1) _, keep_far (hC1a.trans hC2).2 (p := ⟨w1.heap.size, 3, none⟩) hsz1 _⟩
   have hA3 : k77.R 77 (w2.setCell ⟨w1.heap.size, 3, none⟩ (.slice AA l.length cc)) (w1.heap.size + 1) (fun k => w1.heap.size + 1 ≤ k) (.slice AA l.length cc) l := by
    have h1 : k77.R 77 w2 (w1.heap.size + 1) (fun k => w1.heap.size + 1 ≤ k) (.slice AA l.length cc) l := by
     have := Kd.R_mono (Kd.R_bound hA2) (ok' := fun k => w1.heap.size + 1 ≤ k) (fun k hk => by have := hk.2.1; simpa using this)
     simpa using this
    exact Kd.R_far (p := ⟨w1.heap.size, 3, none⟩) h1 (fun k hk => by show k ≠ w1.heap.size; omega) _
   have HR3 := Lib.hid hR3
   have HB3 := Lib.hid hB3
   have HA3 := Lib.hid hA3
   clear hR3 hB3 hA3 hB2 hR2 hA2
   cases hsf : Lib.hasPrefix (rs s q2) [47, 62] with
   | true =>
    have hPre := hasPrefix_any (s.extract q2 s.size) ⟨#[47, 62]⟩ true (by rw [rs_ext]; exact hsf)
    go_wp2_with fail
    refine (rest_any g s q2 ov _ HR3.out (by omega) hs).mono ?_
    rintro e w4 ⟨rfl, n4, rfl⟩
    go_wp2_with fail
    refine (hPre _).mono ?_
    rintro e w4 ⟨rfl, n5, rfl⟩
    clear hPre
    have hB4 : ((w2.setCell ⟨w1.heap.size, 3, none⟩ (.slice AA l.length cc)).drewN (n4 + n5)).heap[w1.heap.size]? = some (.cells #[.int .u8 1, .string y, .string ⟨#[]⟩, .slice AA l.length cc, .bool false, .int .i64 b] 44 (0, 0)) := HB3.out
    have k4 := crow 4 (Value.bool false) hB4
    have f4 := frozen_of_row _ w1.heap.size 4 _ _ hB4
    have hB5 := heap_setCell_same _ w1.heap.size 4 _ _ (.bool true) hB4
    have hR5 : Rd g s q2 ov (((w2.setCell ⟨w1.heap.size, 3, none⟩ (.slice AA l.length cc)).drewN (n4 + n5)).setCell ⟨w1.heap.size, 4, none⟩ (.bool true)) := (Below.heap_setCell _ _ _ _ (Nat.ne_of_lt hlt1)).trans (HR3.out.drewN _)
    have hC05 : Ch g w (((w2.setCell ⟨w1.heap.size, 3, none⟩ (.slice AA l.length cc)).drewN (n4 + n5)).setCell ⟨w1.heap.size, 4, none⟩ (.bool true)) := ⟨(hC03.drewN _).1.setCell (p := ⟨w1.heap.size, 4, none⟩) (Nat.le_of_lt hlt1) _, keep_far (hC03.drewN (n4 + n5)).2 (p := ⟨w1.heap.size, 4, none⟩) hsz1 _⟩
    have hA5 : k77.R 77 (((w2.setCell ⟨w1.heap.size, 3, none⟩ (.slice AA l.length cc)).drewN (n4 + n5)).setCell ⟨w1.heap.size, 4, none⟩ (.bool true)) (w1.heap.size + 1) (fun k => w1.heap.size + 1 ≤ k) (.slice AA l.length cc) l := Kd.R_far (p := ⟨w1.heap.size, 4, none⟩) (Kd.R_below HA3.out (pw_below_drewN (Below.refl _ _) _)) (fun k hk => by show k ≠ w1.heap.size; omega) _
    have j4 := crow 4 (Value.bool true) hB5
    have hG5 := hG.ch hC05.1
    have c5 := hR5.at_ 1
    have f5 := hR5.free 1
    simp at c5
    have hps : q2 < s.size := by
     have := Lib.hasPrefix_le hsf
     rw [rs_len] at this
     simp at this
     omega
    have hB6 : ((((w2.setCell ⟨w1.heap.size, 3, none⟩ (.slice AA l.length cc)).drewN (n4 + n5)).setCell ⟨w1.heap.size, 4, none⟩ (.bool true)).setCell ⟨g, 1, none⟩ (.int .i64 ((q2 + 1 : Nat) : Int))).heap[w1.heap.size]? = some (.cells #[.int .u8 1, .string y, .string ⟨#[]⟩, .slice AA l.length cc, .bool true, .int .i64 b] 44 (0, 0)) := (Below.heap_setCell _ _ _ _ (Nat.ne_of_gt hlt1)).trans hB5
    have hR6 := hR5.put (q2 + 1)
    have hC06 := hC05.set 1 (.int .i64 ((q2 + 1 : Nat) : Int))
    have hA6 : k77.R 77 ((((w2.setCell ⟨w1.heap.size, 3, none⟩ (.slice AA l.length cc)).drewN (n4 + n5)).setCell ⟨w1.heap.size, 4, none⟩ (.bool true)).setCell ⟨g, 1, none⟩ (.int .i64 ((q2 + 1 : Nat) : Int))) (w1.heap.size + 1) (fun k => w1.heap.size + 1 ≤ k) (.slice AA l.length cc) l := Kd.R_far (p := ⟨g, 1, none⟩) hA5 (fun k hk => by show k ≠ g; omega) _
    have hsN : selfN s q2 = (q2 + 1) := by unfold selfN; rw [hsf]; rfl
    have hG6 := hG.ch hC06.1
    have HR6 := Lib.hid hR6
    have HB6 := Lib.hid hB6
    have HA6 := Lib.hid hA6
    clear hR6 hB6 hA6 hA5 hB5 hB4 hR5
    go_wp2_with fail
    have hM := must_any g s (q2 + 1) ov ⟨#[62]⟩ _ HR6.out (by omega) hs
    rw [show (⟨#[62]⟩ : ByteArray).data.toList = [62] from rfl] at hM
    cases hm : mustT s (q2 + 1) [62] with
    | error x =>
     obtain ⟨a, er⟩ := x
     rw [mustR_error hm] at hM
     have hr : Except.error (a, er) = R := by
      rw [← HR.out]
      unfold form4T
      rw [hu]
      simp only [ha]
      rw [hsN, hm]
     subst hr
     refine hM.mono ?_
     rintro e w7 hr
     obtain ⟨rfl, hb⟩ := hr.error
     go_wp2_with fail
     exact ⟨rfl, rfl, hC06.1.trans hb⟩
    | ok q4 =>
     have hle4 := mustT_le hm (by omega)
     rw [mustR_ok hm] at hM
     have hr : Except.ok (q4, putT xs ⟨1, y, ⟨#[]⟩, l, true, (b : Int)⟩) = R := by
      rw [← HR.out]
      unfold form4T
      rw [hu]
      simp only [ha]
      rw [hsN, hm, hsf]
      rfl
     subst hr
     refine hM.mono ?_
     rintro e w7 hr
     obtain ⟨rfl, hR7, hC7⟩ := hr.ok
     clear hM
     have hB7 : w7.heap[w1.heap.size]? = some (.cells #[.int .u8 1, .string y, .string ⟨#[]⟩, .slice AA l.length cc, .bool true, .int .i64 b] 44 (0, 0)) := hC7.2.blk HB6.out (Nat.ne_of_gt hlt1) (by simp)
     have m0 := crow 0 (Value.int .u8 1) hB7
     have m1 := crow 1 (Value.string y) hB7
     have m2 := crow 2 (Value.string ⟨#[]⟩) hB7
     have m3 := crow 3 (Value.slice AA l.length cc) hB7
     have m4 := crow 4 (Value.bool true) hB7
     have m5 := crow 5 (Value.int .i64 (b : Int)) hB7
     have hA7 : k77.R 77 w7 (w1.heap.size + 1) (fun k => w1.heap.size + 1 ≤ k) (.slice AA l.length cc) l := R_ch HA6.out (by omega) hC7
     have hS7 : Kd.S k44 44 w7 (g + 1) (fun k => g < k ∧ k < w.heap.size) ov xs := Kd.S_mono (Kd.S_keep (Kd.S_bound HO.out) (hC06.trans hC7).2 (fun k hk => Nat.ne_of_gt hk.1)) (fun k hk => ⟨hk.1, hk.2.2.1⟩)
     have HS7 := Lib.hid hS7
     have HA7 := Lib.hid hA7
     clear hS7 hA7 hB7 j4
     go_wp2_with fail
     refine (put_any g s q4 ov (.slice AA l.length cc) xs ⟨1, y, ⟨#[]⟩, l, true, (b : Int)⟩ (fun k => g < k ∧ k < w.heap.size) (fun k => w1.heap.size + 1 ≤ k) w7 hR7 HS7.out (Kd.R_lower HA7.out (by omega)) (fun k hk => ⟨hk.1, by omega⟩) (fun k hk => by omega) hl).mono ?_
     rintro e w8 ⟨rfl, ov2, hR8, hO8, hB8, hK8⟩
     go_wp2_with fail
     go_end0
     exact ⟨rfl, ov2, hR8, hO8, (hC06.trans hC7).1.trans hB8, keepT (hC06.trans hC7).2 hK8⟩
   | false =>
    have hPre := hasPrefix_any (s.extract q2 s.size) ⟨#[47, 62]⟩ false (by rw [rs_ext]; exact hsf)
    go_wp2_with fail
    refine (rest_any g s q2 ov _ HR3.out (by omega) hs).mono ?_
    rintro e w4 ⟨rfl, n4, rfl⟩
    go_wp2_with fail
    refine (hPre _).mono ?_
    rintro e w4 ⟨rfl, n5, rfl⟩
    clear hPre
    have hB4 : ((w2.setCell ⟨w1.heap.size, 3, none⟩ (.slice AA l.length cc)).drewN (n4 + n5)).heap[w1.heap.size]? = some (.cells #[.int .u8 1, .string y, .string ⟨#[]⟩, .slice AA l.length cc, .bool false, .int .i64 b] 44 (0, 0)) := HB3.out
    have k4 := crow 4 (Value.bool false) hB4
    have f4 := frozen_of_row _ w1.heap.size 4 _ _ hB4
    have hB5 := heap_setCell_same _ w1.heap.size 4 _ _ (.bool false) hB4
    have hR5 : Rd g s q2 ov (((w2.setCell ⟨w1.heap.size, 3, none⟩ (.slice AA l.length cc)).drewN (n4 + n5)).setCell ⟨w1.heap.size, 4, none⟩ (.bool false)) := (Below.heap_setCell _ _ _ _ (Nat.ne_of_lt hlt1)).trans (HR3.out.drewN _)
    have hC05 : Ch g w (((w2.setCell ⟨w1.heap.size, 3, none⟩ (.slice AA l.length cc)).drewN (n4 + n5)).setCell ⟨w1.heap.size, 4, none⟩ (.bool false)) := ⟨(hC03.drewN _).1.setCell (p := ⟨w1.heap.size, 4, none⟩) (Nat.le_of_lt hlt1) _, keep_far (hC03.drewN (n4 + n5)).2 (p := ⟨w1.heap.size, 4, none⟩) hsz1 _⟩
    have hA5 : k77.R 77 (((w2.setCell ⟨w1.heap.size, 3, none⟩ (.slice AA l.length cc)).drewN (n4 + n5)).setCell ⟨w1.heap.size, 4, none⟩ (.bool false)) (w1.heap.size + 1) (fun k => w1.heap.size + 1 ≤ k) (.slice AA l.length cc) l := Kd.R_far (p := ⟨w1.heap.size, 4, none⟩) (Kd.R_below HA3.out (pw_below_drewN (Below.refl _ _) _)) (fun k hk => by show k ≠ w1.heap.size; omega) _
    have j4 := crow 4 (Value.bool false) hB5
    have hG5 := hG.ch hC05.1
    have hB6 := hB5
    have hR6 := hR5
    have hC06 := hC05
    have hA6 := hA5
    have hps : q2 ≤ s.size := by omega
    have hsN : selfN s q2 = q2 := by unfold selfN; rw [hsf]; rfl
    have hG6 := hG.ch hC06.1
    have HR6 := Lib.hid hR6
    have HB6 := Lib.hid hB6
    have HA6 := Lib.hid hA6
    clear hR6 hB6 hA6 hA5 hB5 hB4 hR5
    go_wp2_with fail
    have hM := must_any g s q2 ov ⟨#[62]⟩ _ HR6.out (by omega) hs
    rw [show (⟨#[62]⟩ : ByteArray).data.toList = [62] from rfl] at hM
    cases hm : mustT s q2 [62] with
    | error x =>
     obtain ⟨a, er⟩ := x
     rw [mustR_error hm] at hM
     have hr : Except.error (a, er) = R := by
      rw [← HR.out]
      unfold form4T
      rw [hu]
      simp only [ha]
      rw [hsN, hm]
     subst hr
     refine hM.mono ?_
     rintro e w7 hr
     obtain ⟨rfl, hb⟩ := hr.error
     go_wp2_with fail
     exact ⟨rfl, rfl, hC06.1.trans hb⟩
    | ok q4 =>
     have hle4 := mustT_le hm (by omega)
     rw [mustR_ok hm] at hM
     have hr : Except.ok (q4, putT xs ⟨1, y, ⟨#[]⟩, l, false, (b : Int)⟩) = R := by
      rw [← HR.out]
      unfold form4T
      rw [hu]
      simp only [ha]
      rw [hsN, hm, hsf]
      rfl
     subst hr
     refine hM.mono ?_
     rintro e w7 hr
     obtain ⟨rfl, hR7, hC7⟩ := hr.ok
     clear hM
     have hB7 : w7.heap[w1.heap.size]? = some (.cells #[.int .u8 1, .string y, .string ⟨#[]⟩, .slice AA l.length cc, .bool false, .int .i64 b] 44 (0, 0)) := hC7.2.blk HB6.out (Nat.ne_of_gt hlt1) (by simp)
     have m0 := crow 0 (Value.int .u8 1) hB7
     have m1 := crow 1 (Value.string y) hB7
     have m2 := crow 2 (Value.string ⟨#[]⟩) hB7
     have m3 := crow 3 (Value.slice AA l.length cc) hB7
     have m4 := crow 4 (Value.bool false) hB7
     have m5 := crow 5 (Value.int .i64 (b : Int)) hB7
     have hA7 : k77.R 77 w7 (w1.heap.size + 1) (fun k => w1.heap.size + 1 ≤ k) (.slice AA l.length cc) l := R_ch HA6.out (by omega) hC7
     have hS7 : Kd.S k44 44 w7 (g + 1) (fun k => g < k ∧ k < w.heap.size) ov xs := Kd.S_mono (Kd.S_keep (Kd.S_bound HO.out) (hC06.trans hC7).2 (fun k hk => Nat.ne_of_gt hk.1)) (fun k hk => ⟨hk.1, hk.2.2.1⟩)
     have HS7 := Lib.hid hS7
     have HA7 := Lib.hid hA7
     clear hS7 hA7 hB7 j4
     go_wp2_with fail
     refine (put_any g s q4 ov (.slice AA l.length cc) xs ⟨1, y, ⟨#[]⟩, l, false, (b : Int)⟩ (fun k => g < k ∧ k < w.heap.size) (fun k => w1.heap.size + 1 ≤ k) w7 hR7 HS7.out (Kd.R_lower HA7.out (by omega)) (fun k hk => ⟨hk.1, by omega⟩) (fun k hk => by omega) hl).mono ?_
     rintro e w8 ⟨rfl, ov2, hR8, hO8, hB8, hK8⟩
     go_wp2_with fail
     go_end0
     exact ⟨rfl, ov2, hR8, hO8, (hC06.trans hC7).1.trans hB8, keepT (hC06.trans hC7).2 hK8⟩
end Go.Proofs.YtknfpggiigncpaaGreatDoor.C
