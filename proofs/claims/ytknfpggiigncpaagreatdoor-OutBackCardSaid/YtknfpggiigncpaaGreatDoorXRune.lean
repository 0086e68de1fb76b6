/- strings.IndexAny and ContainsAny of a text of at most eight bytes at the cutset "+-_": whatever the text. -/
import Derived.Test.YtknfpggiigncpaaGreatDoorAx1
import Derived.Test.YtknfpggiigncpaaGreatDoorShelf
import Derived.WalkKit
import Derived.Lib.Hide
import Derived.Test.YtknfpggiigncpaaGreatDoorXCheck
import Derived.LoopN
import Derived.Deep.QuietTactic
import Derived.BigQuiet
set_option maxHeartbeats 1000000
set_option maxRecDepth 100000
set_option linter.unusedVariables false
set_option linter.unusedSimpArgs false
section
namespace Go.Proofs.YtknfpggiigncpaaGreatDoor.P
open Go.RowKit
theorem dropWhile_nil {α : Type} (p : α → Bool) (l : List α) : l.dropWhile p = [] ↔ l.all p = true := by
 induction l with
 | nil => simp
 | cons a l ih =>
  by_cases h : p a = true
  ·
   simp [h, ih]
  ·
   simp [h]
theorem trimS_nil (l cs : List UInt8) : Lib.trimS l cs = [] ↔ l.all (cs.contains ·) = true := by
 unfold Lib.trimS Lib.trimLeftS Lib.trimRightS
 rw [dropWhile_nil]
 constructor
 ·
  intro h
  rw [List.all_eq_true] at h ⊢
  intro x hx
  have key : ∀ m : List UInt8, (∀ y ∈ m.dropWhile (cs.contains ·), cs.contains y = true) → ∀ y ∈ m, cs.contains y = true := by
   intro m
   induction m with
   | nil => intro _ y hy; cases hy
   | cons a m ih =>
    intro h y hy
    by_cases ha : cs.contains a = true
    ·
     rw [List.dropWhile_cons_of_pos ha] at h
     rcases List.mem_cons.1 hy with rfl | hy
     ·
      exact ha
     ·
      exact ih h y hy
    ·
     rw [List.dropWhile_cons_of_neg ha] at h
     exact h y hy
  exact key l.reverse (fun y hy => h y (by simpa using hy)) x (by simpa using hx)
 ·
  intro h
  rw [List.all_eq_true] at h ⊢
  intro x hx
  have : x ∈ l.reverse.dropWhile (cs.contains ·) := by simpa using hx
  exact h x (by simpa using (List.dropWhile_sublist _).subset this)
theorem blank_set (b : UInt8) : ([32, 9, 10, 13] : List UInt8).contains b = blankB b := by
 rw [Bool.eq_iff_iff]
 simp [blankB, or_assoc]
theorem text_Blank.calls (a0 : ByteArray) (r : Bool) (w : World) (h : text_Blank.f a0 = some r) (_hG : Glob w) :
  Calls Tryz.prog 33 #[.string a0] w fun e w' => e = .returned (.bool r) ∧ Below w.heap.size w w' := by
 unfold text_Blank.f at h
 by_cases hm' : a0.size ≤ 140737488355328
 case neg => rw [if_neg hm'] at h; cases h
 rw [if_pos hm'] at h
 obtain rfl := Option.some.inj h
 clear h
 have hcon := Any.strings_Trim_laid Tryz.lays160 (by kernel_rfl) a0 ⟨#[32, 9, 10, 13]⟩ w (by omega) (by decide) (ascii_of_all (by decide))
 change Calls Tryz.prog 74 _ _ _ at hcon
 have e1 : (⟨#[32, 9, 10, 13]⟩ : ByteArray).data.toList = [32, 9, 10, 13] := rfl
 rw [e1] at hcon
 clear e1
 have hx : (a0.data.toList.all blankB) = decide (Lib.trimS a0.data.toList [32, 9, 10, 13] = []) := by
  rw [Bool.eq_iff_iff, decide_eq_true_eq, trimS_nil]
  simp only [blank_set]
 rw [hx]
 clear hx
 generalize Lib.trimS a0.data.toList [32, 9, 10, 13] = x at *
 go_enter Tryz.func33, Tryz.ntmps33
 go_wp2_with fail
 refine hcon.mono ?_
 rintro e w1 ⟨rfl, hb⟩
 go_wp2_with fail
 go_ret
 refine ⟨?_, hb⟩
 cases x <;> rfl
end Go.Proofs.YtknfpggiigncpaaGreatDoor.P
end
section
namespace Go.Proofs.YtknfpggiigncpaaGreatDoor.P
open Go.RowKit YtknfpggiigncpaaGreatDoorW.PrintWords
abbrev pmu : ByteArray := ⟨#[43, 45, 95]⟩
theorem conv_rune (r : Int) (w : World) : (convert 21 9 (.int .i32 r)).run Tryz.prog w = .ok (.string (Utf8.encode r)) w := by
 simp [convert, run_underlying Tryz.underlying21, run_underlying Tryz.underlying9, Conv.intToString]
theorem valid_eq (r : Int) : Lib.validRune r = Utf8.valid r := by
 unfold Lib.validRune Utf8.valid
 rw [Bool.eq_iff_iff]
 simp
 omega
theorem last_high (c m : Nat) : 128 ≤ (UInt8.ofNat (0x80 + c % 64)).toNat := by
 rw [UInt8.toNat_ofNat']
 omega
theorem encode_high (r : Int) (hv : Utf8.valid r = true) (h : 128 ≤ r) : ∃ x : ByteArray, Utf8.encode r = x ∧ 2 ≤ x.size ∧ x.size ≤ 4 ∧ ∀ hx : x.size - 1 < x.size, 128 ≤ (x[x.size - 1]'hx).toNat := by
 by_cases h1 : r.toNat < 0x800
 ·
  refine ⟨_, by unfold Utf8.encode; simp only [hv, if_true]; rw [if_neg (by omega), if_pos h1], ?_⟩
  exact ⟨(by show (2 : Nat) ≤ 2; omega), (by show (2 : Nat) ≤ 4; omega), fun _ => last_high _ 0⟩
 ·
  by_cases h2 : r.toNat < 0x10000
  ·
   refine ⟨_, by unfold Utf8.encode; simp only [hv, if_true]; rw [if_neg (by omega), if_neg h1, if_pos h2], ?_⟩
   exact ⟨(by show (2 : Nat) ≤ 3; omega), (by show (3 : Nat) ≤ 4; omega), fun _ => last_high _ 0⟩
  ·
   refine ⟨_, by unfold Utf8.encode; simp only [hv, if_true]; rw [if_neg (by omega), if_neg h1, if_neg h2], ?_⟩
   exact ⟨(by show (2 : Nat) ≤ 4; omega), (by show (4 : Nat) ≤ 4; omega), fun _ => last_high _ 0⟩
theorem indexByte_empty (c : Nat) (W : World) : Calls Tryz.prog 66 #[.string ByteArray.empty, .int .u8 c] W fun e w' => e = .returned (.int .i64 (-1)) ∧ w' = W := Tryz.strings_IndexByte ByteArray.empty c W
theorem indexByte_under (c : Nat) (h1 : 128 ≤ c) (h2 : c < 256) (W : World) : Calls Tryz.prog 66 #[.string (pmu.extract 2 3), .int .u8 c] W fun e w' => e = .returned (.int .i64 (-1)) ∧ w' = W := by
 have := Tryz.strings_IndexByte (pmu.extract 2 3) c W
 have e1 : Lib.indexByte (pmu.extract 2 3).data.toList ((c : Int).toNat.toUInt8) = -1 := by
  have e2 : (pmu.extract 2 3).data.toList = [95] := by decide
  rw [e2]
  have hne : ((95 : UInt8) == (c : Int).toNat.toUInt8) = false := by
   rw [beq_eq_false_iff_ne]
   intro h
   have := congrArg UInt8.toNat h
   simp at this
   omega
  unfold Lib.indexByte
  rw [hne]
  rfl
 rw [e1] at this
 exact this
theorem indexRune_high (r : Int) (w : World) (hv : Utf8.valid r = true) (h : 128 ≤ r) (hr : r ≤ 2147483647) (hne : r ≠ 65533) :
  Calls Tryz.prog 165 #[.string pmu, .int .i32 r] w fun e w' => e = .returned (.int .i64 (-1)) ∧ Below w.heap.size w w' := by
 obtain ⟨x, hx, h2, h4, hl⟩ := encode_high r hv h
 have hc := conv_rune r
 rw [hx] at hc
 have b1 : (r == 65533) = false := beq_eq_false_iff_ne.2 hne
 have Hv := Lib.hid ((valid_eq r).trans hv)
 clear hv hne
 clear hx
 have hlast := hl (by omega)
 clear hl
 by_cases h4' : x.size = 4
 ·
  go_enter Tryz.func165, Tryz.ntmps165
  go_wp2_with (go_at_call 179; refine (Tryz.utf8_ValidRune _ _).mono ?_; rintro e w1 ⟨rfl, rfl⟩; rw [Hv])
  go_step3
  go_wp2_with fail
  refine wp_loop_once ?_
  go_wp2_with fail
  rw [Exit.noGoto_ret]
  go_ret
  exact ⟨rfl, Below.refl _ _⟩
 ·
  obtain ⟨c, hcc⟩ : ∃ c : Nat, (x[x.size - 1]'(by omega)).toNat = c := ⟨_, rfl⟩
  have hc128 : 128 ≤ c := by rw [← hcc]; exact hlast
  have hc256 : c < 256 := by rw [← hcc]; exact UInt8.toNat_lt _
  clear hlast
  by_cases h3' : x.size = 3
  ·
   have hi : ∀ h : 2 < x.size, ((x[2]'h).toNat : Int) = (c : Int) := fun h => by rw [← hcc]; congr 2; simp [h3']
   have hlt : (2 < x.size) = True := eq_true (by omega)
   have b2 : ((((pmu[2]'(by decide)).toNat : Nat) : Int) != (c : Int)) = true := by
    show ((95 : Int) != (c : Int)) = true
    exact bne_iff_ne.2 (by omega)
   have hib := indexByte_empty c
   clear hcc
   have hw3 : IntKind.i64.wrap 3 = 3 := by decide
   have hw2 : IntKind.i64.wrap 2 = 2 := by decide
   go_enter Tryz.func165, Tryz.ntmps165
   go_wp2_with (go_at_call 179; refine (Tryz.utf8_ValidRune _ _).mono ?_; rintro e w1 ⟨rfl, rfl⟩; rw [Hv])
   go_step3
   go_wp2_with fail
   refine wp_loop_once ?_
   go_wp2_with fail
   go_step3
   go_wp2_with fail
   go_quiet (fail)
   go_wp2_with fail
   obtain ⟨wq, hwq⟩ : ∃ wq, w1.drewN nq = wq := ⟨_, rfl⟩
   rw [hwq]
   have Hwq := Lib.hid hwq
   clear hwq
   go_quiet ((go_at_call 66; exact Calls.quiet_of_same (hib _)))
   go_wp2_with fail
   simp (zetaDelta := true) only [Exit.noGoto_ret, Exit.inBlock, Exit.then]
   go_ret
   refine ⟨rfl, ?_⟩
   rw [← Hwq.out]
   exact pw_below_drewN (pw_below_drewN (Below.refl _ _) _) _
  have h2' : x.size = 2 := by omega
  ·
   have hi : ∀ h : 1 < x.size, ((x[1]'h).toNat : Int) = (c : Int) := fun h => by rw [← hcc]; congr 2; simp [h2']
   have hlt : (1 < x.size) = True := eq_true (by omega)
   have b2 : ((((pmu[1]'(by decide)).toNat : Nat) : Int) != (c : Int)) = true := by
    show ((45 : Int) != (c : Int)) = true
    exact bne_iff_ne.2 (by omega)
   have hib := indexByte_under c hc128 hc256
   clear hcc
   have hw3 : IntKind.i64.wrap 3 = 3 := by decide
   have hw2 : IntKind.i64.wrap 2 = 2 := by decide
   go_enter Tryz.func165, Tryz.ntmps165
   go_wp2_with (go_at_call 179; refine (Tryz.utf8_ValidRune _ _).mono ?_; rintro e w1 ⟨rfl, rfl⟩; rw [Hv])
   go_step3
   go_wp2_with fail
   refine wp_loop_once ?_
   go_wp2_with fail
   go_step3
   go_wp2_with fail
   go_quiet (fail)
   go_wp2_with fail
   obtain ⟨wq, hwq⟩ : ∃ wq, w1.drewN nq = wq := ⟨_, rfl⟩
   rw [hwq]
   have Hwq := Lib.hid hwq
   clear hwq
   go_quiet ((go_at_call 66; exact Calls.quiet_of_same (hib _)))
   go_wp2_with fail
   simp (zetaDelta := true) only [Exit.noGoto_ret, Exit.inBlock, Exit.then]
   go_ret
   refine ⟨rfl, ?_⟩
   rw [← Hwq.out]
   exact pw_below_drewN (pw_below_drewN (Below.refl _ _) _) _
theorem next_pmu (w : World) (k : Nat) (c : Nat) (hk : k < 3) (hc : Utf8.decode pmu k = (c, 1)) (ty : TypeId) :
  (Instr.next (.pointer (some ⟨w.heap.size, 0, none⟩)) true ty).run Tryz.prog (w.iter pmu k) = .ok (.tuple #[.bool true, .int .i64 k, .int .i32 c]) (w.iter pmu (k + 1)) := by
 rw [run_next_any w pmu k ty (show k < pmu.size from hk), hc]
theorem indexRune_bad (w : World) : Calls Tryz.prog 165 #[.string pmu, .int .i32 65533] w fun e w' => e = .returned (.int .i64 (-1)) ∧ Below w.heap.size w w' := by
 go_enter Tryz.func165, Tryz.ntmps165
 go_wp2_with fail
 go_loopw [5] (fun _ wr => ∃ pos : Nat, pos ≤ 3 ∧ wr = w.iter pmu pos) (fun _ wr => 3 - wr.iterPos w.heap.size)
 case atStart => exact ⟨0, by omega, rfl⟩
 case round =>
  obtain ⟨pos, hp, rfl⟩ := hrel
  rcases (by omega : pos = 0 ∨ pos = 1 ∨ pos = 2 ∨ pos = 3) with rfl | rfl | rfl | rfl
  case _ =>
   have hn := next_pmu w 0 43 (by omega) (by decide)
   go_wp2_with fail
   go_roundw
   case rel => exact ⟨1, by omega, rfl⟩
   case measure => simp
  case _ =>
   have hn := next_pmu w 1 45 (by omega) (by decide)
   go_wp2_with fail
   go_roundw
   case rel => exact ⟨2, by omega, rfl⟩
   case measure => simp
  case _ =>
   have hn := next_pmu w 2 95 (by omega) (by decide)
   go_wp2_with fail
   go_roundw
   case rel => exact ⟨3, by omega, rfl⟩
   case measure => simp
  case _ =>
   have hn : ∀ ty, (Instr.next (.pointer (some ⟨w.heap.size, 0, none⟩)) true ty).run Tryz.prog (w.iter pmu 3) = _ := fun ty => run_next_end w pmu 3 ty (by decide)
   go_wp2_with fail
   go_ret
   exact ⟨rfl, (Below.refl _ _).alloc (Nat.le_refl _) _⟩
theorem decode_valid (s : ByteArray) (pos : Nat) : Utf8.valid ((Utf8.decode s pos).1 : Int) = true := by
 have hb : ∀ k, (s.get! (pos + k)).toNat < 256 := fun k => (s.get! (pos + k)).toNat_lt
 have h0 := hb 0; have h1 := hb 1; have h2 := hb 2; have h3 := hb 3
 simp only [Utf8.decode]
 repeat' split
 all_goals simp_all [Utf8.runeError, Utf8.valid]
 all_goals omega
theorem indexByte_pmu (c : UInt8) (h : 0 ≤ Lib.indexByte pmu.data.toList c) : c = 43 ∨ c = 45 ∨ c = 95 := by
 by_cases h1 : c = 43
 ·
  exact .inl h1
 ·
  by_cases h2 : c = 45
  ·
   exact .inr (.inl h2)
  ·
   by_cases h3 : c = 95
   ·
    exact .inr (.inr h3)
   ·
    exfalso
    have b1 : ((43 : UInt8) == c) = false := beq_eq_false_iff_ne.2 (Ne.symm h1)
    have b2 : ((45 : UInt8) == c) = false := beq_eq_false_iff_ne.2 (Ne.symm h2)
    have b3 : ((95 : UInt8) == c) = false := beq_eq_false_iff_ne.2 (Ne.symm h3)
    have e : Lib.indexByte pmu.data.toList c = -1 := by
     show Lib.indexByte [43, 45, 95] c = -1
     simp only [Lib.indexByte, b1, b2, b3]
     rfl
    omega
theorem indexRune_pmu (s : ByteArray) (pos : Nat) (hp : pos < s.size) (w : World) : ∃ n : Int, (0 ≤ n → (s[pos]'hp = 43 ∨ s[pos]'hp = 45 ∨ s[pos]'hp = 95)) ∧ Calls Tryz.prog 165 #[.string pmu, .int .i32 (Utf8.decode s pos).1] w fun e w' => e = .returned (.int .i64 n) ∧ Below w.heap.size w w' := by
 by_cases h1 : (Utf8.decode s pos).1 < 128
 ·
  refine ⟨_, fun h => ?_, (Tryz.strings_IndexRune_ascii pmu ((Utf8.decode s pos).1 : Int) w (by omega) (by omega)).mono fun e w' h => ⟨h.1, h.2 ▸ Below.refl _ _⟩⟩
  have ha : (s[pos]'hp).toNat < 128 := by
   rcases Nat.lt_or_ge (s[pos]'hp).toNat 128 with h | h
   ·
    exact h
   ·
    have := (decode_high s pos hp h).1
    omega
  have := indexByte_pmu _ h
  rw [decode_ascii s pos hp ha] at this
  simpa using this
 ·
  by_cases h2 : (Utf8.decode s pos).1 = 65533
  ·
   rw [h2]
   exact ⟨-1, by omega, indexRune_bad w⟩
  ·
   exact ⟨-1, by omega, indexRune_high _ w (decode_valid s pos) (by omega) (by have := decode_le s pos; omega) (by omega)⟩
theorem indexAny_pmu (s : ByteArray) (w : World) (h8 : s.size ≤ 8) : Calls Tryz.prog 170 #[.string s, .string pmu] w fun e w' => (∃ n : Int, e = .returned (.int .i64 n) ∧ (0 ≤ n → ∃ x ∈ s.data.toList, x = 43 ∨ x = 45 ∨ x = 95)) ∧ Below w.heap.size w w' := by
 have b8 : decide (8 < (s.size : Int)) = false := by simp; omega
 go_enter Tryz.func170, Tryz.ntmps170
 go_wp2_with (go_at_call 180; refine (Tryz.strings_shouldUseASCIISet _ _).mono ?_; rintro e w1 ⟨rfl, rfl⟩; rw [b8])
 go_loopw [9] (fun _ wr => ∃ pos : Nat, Hid (wr.heap[w1.heap.size]? = some (.stringIter s pos)) ∧ Hid (Below w1.heap.size w1 wr)) (fun _ wr => s.size - wr.iterPos w1.heap.size)
 case atStart => exact ⟨0, World.iter_heap _ _ _, (Below.refl _ _).alloc (Nat.le_refl _) _⟩
 case round =>
  obtain ⟨pos, hit, hbl⟩ := hrel
  by_cases hp : pos < s.size
  ·
   have hnx : ∀ ty, (Instr.next (.pointer (some ⟨w1.heap.size, 0, none⟩)) true ty).run Tryz.prog wr = _ := fun ty => run_next_at wr w1.heap.size s pos ty hit hp
   have hwd := Lib.decode_width_pos s pos hp
   have hit2 := iterTo_at wr w1.heap.size s (pos + (Utf8.decode s pos).2) hit
   have hbl2 := iterTo_below hbl (Nat.le_refl _) s (pos + (Utf8.decode s pos).2)
   have hsz : w1.heap.size < (iterTo wr w1.heap.size s (pos + (Utf8.decode s pos).2)).heap.size := (Array.getElem?_eq_some_iff.1 hit2).1
   obtain ⟨n, hn, hc⟩ := indexRune_pmu s pos hp (iterTo wr w1.heap.size s (pos + (Utf8.decode s pos).2))
   have Hn := Lib.hid hn
   clear hn
   generalize hd : Utf8.decode s pos = d at *
   obtain ⟨c, m⟩ := d
   simp only at hwd hit2 hbl2 hsz hnx hc
   have Hd := Lib.hid hd
   have Hc := Lib.hid hc
   clear hd hc
   by_cases h0 : 0 ≤ n
   ·
    go_wp2_with fail
    refine (Hc.out).mono ?_
    rintro e w2 ⟨rfl, hb2⟩
    go_wp2_with fail
    go_ret
    exact ⟨⟨_, rfl, fun _ => ⟨s[pos], by simp [ByteArray.getElem_eq_getElem_data], Hn h0⟩⟩, hbl2.trans (hb2.mono (by omega))⟩
   ·
    go_wp2_with fail
    refine (Hc.out).mono ?_
    rintro e w2 ⟨rfl, hb2⟩
    go_wp2_with fail
    go_roundw
    case rel => exact ⟨pos + m, (hb2.block _ hsz).trans hit2, hbl2.trans (hb2.mono (by omega))⟩
    case measure =>
     simp [World.iterPos, show wr.heap[w1.heap.size]? = some (Obj.stringIter s pos) from hit, (hb2.block _ hsz).trans hit2]
     omega
  ·
   have hnx : ∀ ty, (Instr.next (.pointer (some ⟨w1.heap.size, 0, none⟩)) true ty).run Tryz.prog wr = _ := fun ty => run_next_out wr w1.heap.size s pos ty hit hp
   go_wp2_with fail
   go_ret
   exact ⟨⟨_, rfl, fun h => by omega⟩, hbl⟩
theorem containsAny_pmu (s : ByteArray) (w : World) (h8 : s.size ≤ 8) : Calls Tryz.prog 157 #[.string s, .string pmu] w fun e w' => (∃ b : Bool, e = .returned (.bool b) ∧ (b = true → ∃ x ∈ s.data.toList, x = 43 ∨ x = 45 ∨ x = 95)) ∧ Below w.heap.size w w' := by
 have hcon := indexAny_pmu s w h8
 go_enter Tryz.func157, Tryz.ntmps157
 go_wp2_with fail
 refine hcon.mono ?_
 rintro e w1 ⟨⟨n, rfl, hn⟩, hb⟩
 have Hn := Lib.hid hn
 clear hn
 go_wp2_with fail
 go_ret
 exact ⟨⟨_, rfl, fun h => Hn.out (by simpa using h)⟩, hb⟩
end Go.Proofs.YtknfpggiigncpaaGreatDoor.P
end
