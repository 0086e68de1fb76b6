/- text.Check: its contract. -/
import Derived.Test.YtknfpggiigncpaaGreatDoorAx1
import Derived.Test.YtknfpggiigncpaaGreatDoorShelf
import Derived.WalkKit
import Derived.Lib.Walk
import Derived.Lib.Hide
import Derived.Lib.RuneCountTail
import Derived.Laws.RangeAny
import Derived.LoopTactic
set_option linter.unusedVariables false
set_option linter.unusedSimpArgs false
namespace Go.Proofs.YtknfpggiigncpaaGreatDoor.P
open Go.RowKit YtknfpggiigncpaaGreatDoorW.PrintWords
def iterTo (W : World) (b : Nat) (s : ByteArray) (pos : Nat) : World := { W with heap := W.heap.setIfInBounds b (.stringIter s pos) }
theorem iterTo_at (W : World) (b : Nat) (s : ByteArray) (pos : Nat) {o : Obj} (h : W.heap[b]? = some o) : (iterTo W b s pos).heap[b]? = some (.stringIter s pos) := by
 have hb : b < W.heap.size := (Array.getElem?_eq_some_iff.1 h).1
 simp [iterTo, hb]
theorem iterTo_below {B b : Nat} {w W : World} (h : Below B w W) (hb : B ≤ b) (s : ByteArray) (pos : Nat) : Below B w (iterTo W b s pos) :=
 ⟨h.os, h.tape, h.output, by simpa [iterTo] using h.size, fun k hk => by
  rw [← h.block k hk]
  simp [iterTo, show b ≠ k by omega]⟩
theorem run_next_at {P : Program} (W : World) (b : Nat) (s : ByteArray) (pos : Nat) (ty : TypeId) (hb : W.heap[b]? = some (.stringIter s pos)) (h : pos < s.size) :
  (Instr.next (.pointer (some ⟨b, 0, none⟩)) true ty).run P W =
   .ok (.tuple #[.bool true, .int .i64 pos, .int .i32 (Utf8.decode s pos).1]) (iterTo W b s (pos + (Utf8.decode s pos).2)) := by
 simp only [Instr.next, getObj, setObj, Sem.run_bind, Sem.run, hb, Result.andThen, h, if_true]
 simp [goInt, iterTo]
theorem run_next_out {P : Program} (W : World) (b : Nat) (s : ByteArray) (pos : Nat) (ty : TypeId) (hb : W.heap[b]? = some (.stringIter s pos)) (h : ¬ pos < s.size) :
  (Instr.next (.pointer (some ⟨b, 0, none⟩)) true ty).run P W = .ok (.tuple #[.bool false]) W := by
 simp [Instr.next, getObj, Sem.run, hb, h]
theorem xmlB_iff (c : Nat) : xmlB c = decide ((c = 9 ∨ c = 10 ∨ c = 13) ∨ (32 ≤ c ∧ c ≤ 55295) ∨ (57344 ≤ c ∧ c ≤ 65533) ∨ (65536 ≤ c ∧ c ≤ 1114111)) := by
 unfold xmlB
 rw [Bool.eq_iff_iff]
 simp
 omega
theorem xml_f (c : Nat) : A.text_xml.f c = some (xmlB c) := by
 rw [xmlB_iff]
 unfold A.text_xml.f
 repeat' split
 all_goals first
  | (rw [eq_comm]; simp only [Option.some.injEq, decide_eq_true_eq, decide_eq_false_iff_not, decide_eq_decide]; omega)
theorem xml_any (c : Nat) (w : World) : Calls Tryz.prog 62 #[.int .i32 c] w fun e w' => e = .returned (.bool (xmlB c)) ∧ Drawn0 w w' := A.text_xml.calls c (xmlB c) w (xml_f c)
theorem ck_step (s : ByteArray) (f pos : Nat) (h : pos < s.size) :
  ck s (f + 1) pos = if (Utf8.decode s pos).1 = 65533 ∧ (Utf8.decode s pos).2 = 1 then (pos, 20)
   else if xmlB (Utf8.decode s pos).1 = true then ck s f (pos + (Utf8.decode s pos).2) else (pos, 15) := by
 simp only [ck]; rw [if_pos h]
theorem ck_end (s : ByteArray) (f pos : Nat) (h : ¬ pos < s.size) : ck s f pos = (s.size, 0) := by
 cases f with
 | zero => rfl
 | succ f => simp only [ck]; rw [if_neg h]
theorem decodeGo_tail (s : ByteArray) (pos : Nat) (h : pos < s.size) : Lib.decodeGo (s.extract pos s.size) = Utf8.decode s pos := by
 unfold Lib.decodeGo
 rw [if_neg (by simp; omega), Lib.tail_decode]
 rfl
set_option maxHeartbeats 1000000 in
set_option maxRecDepth 100000 in
theorem text_Check.calls (a0 : ByteArray) (r1 r2 : Int) (w : World) (h : text_Check.f a0 = some (r1, r2)) (hG : Glob w) :
  Calls Tryz.prog 27 #[.string a0] w fun e w' => e = .returned (.tuple #[.int .i64 r1, .int .i64 r2]) ∧ Below w.heap.size w w' := by
 unfold text_Check.f at h
 by_cases hm' : a0.size ≤ 140737488355328
 case neg => rw [if_neg hm'] at h; cases h
 rw [if_pos hm'] at h
 simp only [Option.some.injEq, Prod.mk.injEq] at h
 obtain ⟨p, hp1⟩ : ∃ p, (ck a0 a0.size 0).1 = p := ⟨_, rfl⟩
 obtain ⟨h1, h2⟩ := h
 rw [hp1] at h1
 subst h1
 have H : Hid (ck a0 a0.size 0 = (p, r2)) := Lib.hid (Prod.ext hp1 h2)
 clear hp1 h2
 have hm : a0.size ≤ 9223372036854775807 := by omega
 ·
  go_enter Tryz.func27, Tryz.ntmps27
  go_wp2
  go_loopw [4] (fun _ w' => ∃ (pos f : Nat), Hid (w'.heap[w.heap.size]? = some (.stringIter a0 pos)) ∧ Hid (ck a0 f pos = ck a0 a0.size 0) ∧ a0.size ≤ pos + f ∧ Hid (Below w.heap.size w w')) (fun _ w' => a0.size - w'.iterPos w.heap.size)
  case atStart => exact ⟨0, a0.size, World.iter_heap _ _ _, rfl, by omega, (Below.refl _ _).alloc (Nat.le_refl _) _⟩
  case round =>
   obtain ⟨pos, f, hit, hck, hf, hbl⟩ := hrel
   by_cases hp : pos < a0.size
   ·
    have hnx : ∀ ty, (Instr.next (.pointer (some ⟨w.heap.size, 0, none⟩)) true ty).run Tryz.prog wr = _ := fun ty => run_next_at wr w.heap.size a0 pos ty hit hp
    have hwd := Lib.decode_width_pos a0 pos hp
    have hit2 := iterTo_at wr w.heap.size a0 (pos + (Utf8.decode a0 pos).2) hit
    have hbl2 := iterTo_below hbl (Nat.le_refl _) a0 (pos + (Utf8.decode a0 pos).2)
    have hsz : w.heap.size < (iterTo wr w.heap.size a0 (pos + (Utf8.decode a0 pos).2)).heap.size := (Array.getElem?_eq_some_iff.1 hit2).1
    have hfu : ∃ f', f = f' + 1 := ⟨f - 1, by omega⟩
    obtain ⟨f, rfl⟩ := hfu
    rw [ck_step a0 f pos hp] at hck
    generalize hd : Utf8.decode a0 pos = d at *
    obtain ⟨c, n⟩ := d
    have Hd := Lib.hid hd
    clear hd
    simp only at hck hwd hit2 hbl2 hsz hnx
    by_cases hc : c = 65533
    ·
     have hcb : ((c : Int) == 65533) = true := by subst hc; rfl
     have hcx : xmlB c = true := by subst hc; decide
     by_cases hn : n = 1
     ·
      have hnb : ((n : Int) == 1) = true := by subst hn; rfl
      rw [if_pos ⟨hc, hn⟩] at hck
      have Hc := Lib.hid hc
      have Hn := Lib.hid hn
      clear hc hn
      go_wp2_with fail
      refine (Tryz.utf8_DecodeRuneInString _ _ (hG.below hbl2).utf8).mono ?_
      rintro e w1 ⟨rfl, hb1⟩
      rw [decodeGo_tail a0 pos hp, Hd]
      go_wp2_with fail
      go_ret2
      obtain ⟨h1, h2⟩ := Prod.mk.inj (hck.trans H)
      subst h1
      subst h2
      exact ⟨rfl, hbl2.trans (hb1.mono (by omega))⟩
     ·
      have hnb : ((n : Int) == 1) = false := by rw [beq_eq_false_iff_ne]; omega
      rw [if_neg (fun h => hn h.2), if_pos hcx] at hck
      have Hc := Lib.hid hc
      clear hc hn
      go_wp2_with fail
      refine (Tryz.utf8_DecodeRuneInString _ _ (hG.below hbl2).utf8).mono ?_
      rintro e w1 ⟨rfl, hb1⟩
      rw [decodeGo_tail a0 pos hp, Hd]
      go_wp2_with fail
      refine (xml_any c _).mono ?_
      rintro e w2 ⟨rfl, hb2⟩
      rw [hcx]
      go_wp2_with fail
      go_roundw
      case rel =>
       refine ⟨pos + n, f, ?_, hck, by omega, ?_⟩
       ·
        exact (hb2.below.block _ (by have := hb1.size; omega)).trans ((hb1.block _ hsz).trans hit2)
       ·
        exact (hbl2.trans (hb1.mono (by omega))).trans (hb2.below.mono (by have := hb1.size; omega))
      case measure =>
       simp [World.iterPos, show wr.heap[w.heap.size]? = some (Obj.stringIter a0 pos) from hit, (hb2.below.block _ (by have := hb1.size; omega)).trans ((hb1.block _ hsz).trans hit2)]
       omega
    ·
     have hcb : ((c : Int) == 65533) = false := by rw [beq_eq_false_iff_ne]; omega
     rw [if_neg (fun h => hc h.1)] at hck
     cases hcx : xmlB c with
     | true =>
      rw [if_pos hcx] at hck
      have Hc := Lib.hid hcx
      clear hcx
      go_wp2_with fail
      refine (xml_any c _).mono ?_
      rintro e w2 ⟨rfl, hb2⟩
      rw [Hc]
      go_wp2_with fail
      go_roundw
      case rel =>
       refine ⟨pos + n, f, ?_, hck, by omega, ?_⟩
       ·
        exact (hb2.below.block _ hsz).trans hit2
       ·
        exact hbl2.trans (hb2.below.mono (by omega))
      case measure =>
       simp [World.iterPos, show wr.heap[w.heap.size]? = some (Obj.stringIter a0 pos) from hit, (hb2.below.block _ hsz).trans hit2]
       omega
     | false =>
      rw [if_neg (by rw [hcx]; decide)] at hck
      have Hc := Lib.hid hcx
      clear hcx
      go_wp2_with fail
      refine (xml_any c _).mono ?_
      rintro e w2 ⟨rfl, hb2⟩
      rw [Hc]
      go_wp2_with fail
      go_ret2
      obtain ⟨h1, h2⟩ := Prod.mk.inj (hck.trans H)
      subst h1
      subst h2
      exact ⟨rfl, hbl2.trans (hb2.below.mono (by omega))⟩
   ·
    have hnx : ∀ ty, (Instr.next (.pointer (some ⟨w.heap.size, 0, none⟩)) true ty).run Tryz.prog wr = _ := fun ty => run_next_out wr w.heap.size a0 pos ty hit hp
    rw [ck_end a0 f pos hp] at hck
    go_wp2_with fail
    go_ret2
    obtain ⟨h1, h2⟩ := Prod.mk.inj (hck.trans H)
    subst h1
    subst h2
    exact ⟨rfl, hbl⟩
end Go.Proofs.YtknfpggiigncpaaGreatDoor.P
