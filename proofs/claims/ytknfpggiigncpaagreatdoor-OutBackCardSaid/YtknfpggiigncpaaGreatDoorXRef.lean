/- text.reference and what it calls: their contracts. -/
import Derived.Test.YtknfpggiigncpaaGreatDoorXRune
import Derived.Test.YtknfpggiigncpaaGreatDoorMapLit
import Derived.Laws.EntriesVeiled
set_option maxHeartbeats 2000000
set_option maxRecDepth 100000
set_option linter.unusedVariables false
set_option linter.unusedSimpArgs false
namespace Go.Proofs.YtknfpggiigncpaaGreatDoor.P
open Go.RowKit YtknfpggiigncpaaGreatDoorW.PrintWords Go.Proofs.MapLit
theorem parseE (s : ByteArray) (base : Int) (w : World) (h0 : s.size = 0) : Calls Tryz.prog 171 #[.string s, .int .i64 base, .int .i64 32] w fun e w' => PuRes none e ∧ Below w.heap.size w w' := by
 have hne : s.toList.isEmpty = true := by
  rw [Lib.toList_data]
  cases h : s.data.toList with
  | nil => rfl
  | cons _ _ => exact absurd (by rw [Lib.size_eq, h]; simp) (show ¬ s.size ≠ 0 by omega)
 clear h0
 go_enter Tryz.func171, Tryz.ntmps171
 go_wp2_with fail
 go_ret2
 exact ⟨⟨_, rfl⟩, Below.refl _ _⟩
theorem puE (s : ByteArray) (base : Int) (w : World) (h0 : s.size = 0) (hG : Glob w) : Calls Tryz.prog 158 #[.string s, .int .i64 base, .int .i64 32] w fun e w' => PuOut none e ∧ Below w.heap.size w w' := by
 have hcon := parseE s base w h0
 have hlim : s.size ≤ 281474976710656 := by omega
 clear h0
 go_enter Tryz.func158, Tryz.ntmps158
 go_wp2_with fail
 refine hcon.mono ?_
 rintro e w1 ⟨⟨n, rfl⟩, hb⟩
 obtain ⟨ev, hv, hev⟩ := (hG.below hb).errSyntax
 have Hc := Lib.hid (Any.strconv_toError_syntax Tryz.lays245 ⟨#[80, 97, 114, 115, 101, 85, 105, 110, 116]⟩ s base 32 ev w1 hlim hv hev)
 clear hv hev
 go_wp2_with fail
 refine (Hc.out).mono ?_
 rintro e w2 ⟨m, rfl, -, -, hb2⟩
 go_wp2_with fail
 go_ret2
 exact ⟨⟨_, _, rfl⟩, hb.trans (hb2.mono (by have := hb.size; omega))⟩
theorem pu_any (base : Nat) (hb : base = 10 ∨ base = 16) (s : ByteArray) (w : World) (h8 : s.size ≤ 8) (hG : Glob w) :
  Calls Tryz.prog 158 #[.string s, .int .i64 base, .int .i64 32] w fun e w' => PuOut (if s.data.toList = [] then none else numV base s.data.toList 0) e ∧ Below w.heap.size w w' := by
 by_cases h0 : s.size = 0
 ·
  rw [if_pos (List.eq_nil_of_length_eq_zero (by rw [← Lib.size_eq]; exact h0))]
  exact puE s base w h0 hG
 ·
  rw [if_neg (fun h => h0 (by rw [Lib.size_eq, h]; rfl))]
  rcases hb with rfl | rfl
  ·
   exact pu10 s w (by omega) h8 hG
  ·
   exact pu16 s w (by omega) h8 hG
theorem numV_none (base : Nat) : ∀ (l : List UInt8) (n : Nat), (∃ x ∈ l, digV base x = none) → numV base l n = none
 | [], _, h => by obtain ⟨x, hx, _⟩ := h; cases hx
 | b :: r, n, h => by
  simp only [numV]
  cases hd : digV base b with
  | none => rfl
  | some d =>
   obtain ⟨x, hx, hn⟩ := h
   rcases List.mem_cons.1 hx with rfl | hx
   ·
    rw [hd] at hn; cases hn
   ·
    exact numV_none base r _ ⟨x, hx, hn⟩
theorem numRef_sign (base : Nat) (hb : base ≤ 99) (l : List UInt8) (h : ∃ x ∈ l, x = 43 ∨ x = 45 ∨ x = 95) : numRef base l = none := by
 unfold numRef
 split
 ·
  rfl
 ·
  rw [numV_none base l 0 ?_]
  ·
   rfl
  ·
   obtain ⟨x, hx, h⟩ := h
   refine ⟨x, hx, ?_⟩
   have : digD x = 99 := by rcases h with rfl | rfl | rfl <;> decide
   unfold digV
   rw [this, if_neg (by omega)]
def RefOut (o : Option Nat) (e : Ending) : Prop := match o with
 | some c => e = .returned (.tuple #[.int .i32 c, .bool true])
 | none => ∃ r : Int, e = .returned (.tuple #[.int .i32 r, .bool false])
theorem number_any (base : Nat) (hb : base = 10 ∨ base = 16) (s : ByteArray) (B : Nat) (w : World) (hc : w.cell? ⟨B, 0, none⟩ = some (.int .i64 base)) (hG : Glob w) (hm : s.size ≤ 140737488355328) :
  Calls Tryz.prog 156 #[.string s, .pointer (some ⟨B, 0, none⟩)] w fun e w' => RefOut (numRef base s.data.toList) e ∧ Below w.heap.size w w' := by
 by_cases h8 : s.size ≤ 8
 ·
  have hca := containsAny_pmu s w h8
  go_enter Tryz.func156, Tryz.ntmps156
  go_wp2_with fail
  refine hca.mono ?_
  rintro e w1 ⟨⟨b, rfl, hbx⟩, hb1⟩
  cases b with
  | true =>
   have Hnr := Lib.hid (numRef_sign base (by omega) _ (hbx rfl))
   clear hbx
   go_wp2_with fail
   go_ret2
   rw [Hnr.out]
   exact ⟨⟨_, rfl⟩, hb1⟩
  | false =>
   clear hbx
   have hc1 : w1.cell? ⟨B, 0, none⟩ = some (.int .i64 base) := cellBelow hb1 hc
   have Hpu := Lib.hid (pu_any base hb s w1 h8 (hG.below hb1))
   have Hnr : Hid (numRef base s.data.toList = (if s.data.toList = [] then none else numV base s.data.toList 0).bind fun n => if xmlB n = true then some n else none) := by
    unfold numRef
    have hl : ¬ 8 < s.data.toList.length := by rw [← Lib.size_eq]; omega
    by_cases he : s.data.toList = []
    ·
     rw [if_pos (.inl he), if_pos he]; rfl
    ·
     rw [if_neg (by intro h; rcases h with h | h <;> contradiction), if_neg he]; rfl
   generalize (if s.data.toList = [] then none else numV base s.data.toList 0) = o at *
   clear hb
   cases o with
   | none =>
    go_wp2_with fail
    refine (Hpu.out).mono ?_
    rintro e w2 ⟨⟨n, v, rfl⟩, hb2⟩
    go_wp2_with fail
    go_ret2
    rw [Hnr.out]
    exact ⟨⟨_, rfl⟩, hb1.trans (hb2.mono (by have := hb1.size; omega))⟩
   | some n =>
    obtain ⟨z, hz⟩ : ∃ z : Int, (n : Int) = z := ⟨_, rfl⟩
    have hz0 : 0 ≤ z := by omega
    have Hx : Hid (∀ w, Calls Tryz.prog 62 #[.int .i32 z] w fun e w' => e = .returned (.bool (xmlB n)) ∧ Drawn0 w w') := by rw [← hz]; exact xml_any n
    have hbig : ¬ z < 2097152 → xmlB n = false := by
     intro h
     rw [xmlB_iff]
     simp
     omega
    go_wp2_with fail
    refine (Hpu.out).mono ?_
    rintro e w2 ⟨he, hb2⟩
    change e = _ at he
    rw [hz] at he
    subst he
    have Hz := Lib.hid hz
    clear hz
    cases hxb : xmlB n with
    | true =>
     have hn : z < 2097152 := by
      rcases Int.lt_or_le z 2097152 with h | h
      ·
       exact h
      ·
       rw [hbig (by omega)] at hxb; cases hxb
     have Hxb := Lib.hid hxb
     clear hxb hbig
     go_wp2_with (go_at_call 62; refine (Hx.out _).mono ?_; rintro e w3 ⟨rfl, hb3⟩; rw [Hxb.out])
     go_ret2
     rw [Hnr.out]
     refine ⟨?_, (hb1.trans (hb2.mono (by have := hb1.size; omega))).trans (hb3.below.mono (by have := hb1.size; have := hb2.size; omega))⟩
     simp only [Option.bind_some]
     rw [if_pos Hxb.out]
     show _ = _
     rw [Hz.out]
     rfl
    | false =>
     have Hxb := Lib.hid hxb
     clear hxb hbig
     have Hf : Hid (((some n).bind fun n => if xmlB n = true then some n else none) = none) := by
      show (if xmlB n = true then some n else none) = none
      rw [Hxb.out]
      rfl
     by_cases hn : z < 2097152
     ·
      go_wp2_with (go_at_call 62; refine (Hx.out _).mono ?_; rintro e w3 ⟨rfl, hb3⟩; rw [Hxb.out])
      go_ret2
      rw [Hnr.out, Hf.out]
      exact ⟨⟨_, rfl⟩, (hb1.trans (hb2.mono (by have := hb1.size; omega))).trans (hb3.below.mono (by have := hb1.size; have := hb2.size; omega))⟩
     ·
      go_wp2_with fail
      go_ret2
      rw [Hnr.out, Hf.out]
      exact ⟨⟨_, rfl⟩, hb1.trans (hb2.mono (by have := hb1.size; omega))⟩
 ·
  go_enter Tryz.func156, Tryz.ntmps156
  go_wp2_with fail
  go_ret2
  have : numRef base s.data.toList = none := by
   unfold numRef
   rw [if_pos (.inr (by rw [← Lib.size_eq]; omega))]
  rw [this]
  exact ⟨⟨_, rfl⟩, Below.refl _ _⟩
def namesL : List (ByteArray × Value) := [(⟨#[97, 109, 112]⟩, .int .i32 38), (⟨#[108, 116]⟩, .int .i32 60), (⟨#[103, 116]⟩, .int .i32 62), (⟨#[113, 117, 111, 116]⟩, .int .i32 34), (⟨#[97, 112, 111, 115]⟩, .int .i32 39)]
theorem names_any (w : World) : Calls Tryz.prog 136 #[] w fun e w' => e = .returned (.map (some w.heap.size)) ∧ w' = mapW Value.string w namesL := by
 have hmk := mk_map (P := Tryz.prog) Value.string 187
 have hi0 : ∀ w : World, (Instr.mapUpdate 187 (.map (some w.heap.size)) (.string ⟨#[97, 109, 112]⟩) (.int .i32 38)).run Tryz.prog (mapW Value.string w []) = .ok () (mapW Value.string w [(⟨#[97, 109, 112]⟩, .int .i32 38)]) := fun w => run_insertW keyAs_string Tryz.underlying187 Tryz.underlying9 (⟨#[97, 109, 112]⟩ : ByteArray) (.int .i32 38) [] (by decide) w
 have hi1 : ∀ w : World, (Instr.mapUpdate 187 (.map (some w.heap.size)) (.string ⟨#[108, 116]⟩) (.int .i32 60)).run Tryz.prog (mapW Value.string w [(⟨#[97, 109, 112]⟩, .int .i32 38)]) = .ok () (mapW Value.string w [(⟨#[97, 109, 112]⟩, .int .i32 38), (⟨#[108, 116]⟩, .int .i32 60)]) := fun w => run_insertW keyAs_string Tryz.underlying187 Tryz.underlying9 (⟨#[108, 116]⟩ : ByteArray) (.int .i32 60) [(⟨#[97, 109, 112]⟩, .int .i32 38)] (by decide) w
 have hi2 : ∀ w : World, (Instr.mapUpdate 187 (.map (some w.heap.size)) (.string ⟨#[103, 116]⟩) (.int .i32 62)).run Tryz.prog (mapW Value.string w [(⟨#[97, 109, 112]⟩, .int .i32 38), (⟨#[108, 116]⟩, .int .i32 60)]) = .ok () (mapW Value.string w [(⟨#[97, 109, 112]⟩, .int .i32 38), (⟨#[108, 116]⟩, .int .i32 60), (⟨#[103, 116]⟩, .int .i32 62)]) := fun w => run_insertW keyAs_string Tryz.underlying187 Tryz.underlying9 (⟨#[103, 116]⟩ : ByteArray) (.int .i32 62) [(⟨#[97, 109, 112]⟩, .int .i32 38), (⟨#[108, 116]⟩, .int .i32 60)] (by decide) w
 have hi3 : ∀ w : World, (Instr.mapUpdate 187 (.map (some w.heap.size)) (.string ⟨#[113, 117, 111, 116]⟩) (.int .i32 34)).run Tryz.prog (mapW Value.string w [(⟨#[97, 109, 112]⟩, .int .i32 38), (⟨#[108, 116]⟩, .int .i32 60), (⟨#[103, 116]⟩, .int .i32 62)]) = .ok () (mapW Value.string w [(⟨#[97, 109, 112]⟩, .int .i32 38), (⟨#[108, 116]⟩, .int .i32 60), (⟨#[103, 116]⟩, .int .i32 62), (⟨#[113, 117, 111, 116]⟩, .int .i32 34)]) := fun w => run_insertW keyAs_string Tryz.underlying187 Tryz.underlying9 (⟨#[113, 117, 111, 116]⟩ : ByteArray) (.int .i32 34) [(⟨#[97, 109, 112]⟩, .int .i32 38), (⟨#[108, 116]⟩, .int .i32 60), (⟨#[103, 116]⟩, .int .i32 62)] (by decide) w
 have hi4 : ∀ w : World, (Instr.mapUpdate 187 (.map (some w.heap.size)) (.string ⟨#[97, 112, 111, 115]⟩) (.int .i32 39)).run Tryz.prog (mapW Value.string w [(⟨#[97, 109, 112]⟩, .int .i32 38), (⟨#[108, 116]⟩, .int .i32 60), (⟨#[103, 116]⟩, .int .i32 62), (⟨#[113, 117, 111, 116]⟩, .int .i32 34)]) = .ok () (mapW Value.string w [(⟨#[97, 109, 112]⟩, .int .i32 38), (⟨#[108, 116]⟩, .int .i32 60), (⟨#[103, 116]⟩, .int .i32 62), (⟨#[113, 117, 111, 116]⟩, .int .i32 34), (⟨#[97, 112, 111, 115]⟩, .int .i32 39)]) := fun w => run_insertW keyAs_string Tryz.underlying187 Tryz.underlying9 (⟨#[97, 112, 111, 115]⟩ : ByteArray) (.int .i32 39) [(⟨#[97, 109, 112]⟩, .int .i32 38), (⟨#[108, 116]⟩, .int .i32 60), (⟨#[103, 116]⟩, .int .i32 62), (⟨#[113, 117, 111, 116]⟩, .int .i32 34)] (by decide) w
 go_enter Tryz.func136, Tryz.ntmps136
 go_wp2_with fail
 go_ret
 exact ⟨rfl, rfl⟩
theorem zero21 (w : World) : (zeroValue 21).run Tryz.prog w = .ok (.int .i32 0) w := Tryz.zeroValue21 w
def nameV (l : List UInt8) : Option Nat := if l = [97, 109, 112] then some 38 else if l = [108, 116] then some 60 else if l = [103, 116] then some 62 else if l = [113, 117, 111, 116] then some 34 else if l = [97, 112, 111, 115] then some 39 else none
theorem get_names (s : ByteArray) : mget namesL s = (nameV s.data.toList).map fun c => .int .i32 (c : Int) := by
 have key : ∀ l : List UInt8, (s = ⟨l.toArray⟩) = (s.data.toList = l) := fun l => propext ⟨fun h => by rw [h], fun h => by
  apply ByteArray.ext
  apply Array.ext'
  exact h⟩
 unfold mget namesL nameV
 simp only [List.find?_cons, List.find?_nil, key [97, 109, 112], key [108, 116], key [103, 116], key [113, 117, 111, 116], key [97, 112, 111, 115]]
 repeat' split
 all_goals simp_all
theorem ways1_any (s : ByteArray) (w : World) : Calls Tryz.prog 135 #[.string s] w fun e w' => RefOut (nameV s.data.toList) e ∧ Below w.heap.size w w' := by
 have hl : ∀ w : World, (Instr.lookup 187 (.map (some w.heap.size)) (.string s) true).run Tryz.prog (mapW Value.string w namesL) = _ := fun w => run_lookup_ok keyAs_string Tryz.underlying187 Tryz.underlying9 s namesL 5 (.int .i32 0) zero21 (mapW Value.string w namesL) w.heap.size (mapW_at w namesL)
 rw [get_names] at hl
 generalize nameV s.data.toList = o at *
 cases o with
 | none =>
  go_enter Tryz.func135, Tryz.ntmps135
  go_wp2_with fail
  refine (names_any w).mono ?_
  rintro e w1 ⟨rfl, rfl⟩
  go_wp2_with fail
  go_ret2
  exact ⟨⟨0, rfl⟩, mapW_below (Below.refl _ _) (Nat.le_refl _) _⟩
 | some c =>
  go_enter Tryz.func135, Tryz.ntmps135
  go_wp2_with fail
  refine (names_any w).mono ?_
  rintro e w1 ⟨rfl, rfl⟩
  go_wp2_with fail
  go_ret2
  exact ⟨rfl, mapW_below (Below.refl _ _) (Nat.le_refl _) _⟩
theorem hmf : ∀ (fn : Fn) (first cap : Array Value) (w : World), (Instr.makeFunc fn first cap).run Tryz.prog w = .ok (.func fn first cap) w := fun _ _ _ _ => rfl
theorem number_make (base : Int) (w : World) : Calls Tryz.prog 134 #[.int .i64 base] w fun e w' => e = .returned (.func (.func 156) #[] #[.pointer (some ⟨w.heap.size, 0, none⟩)]) ∧ w' = w.alloc (.cells #[.int .i64 base] 3) := by
 have hm := hmf
 go_enter Tryz.func134, Tryz.ntmps134
 go_wp2_with fail
 go_ret
 exact ⟨rfl, rfl⟩
structure WaysAt (B : Nat) (w : World) : Prop where
 n16 : w.cell? ⟨B, 0, none⟩ = some (.int .i64 16)
 n10 : w.cell? ⟨B + 1, 0, none⟩ = some (.int .i64 10)
 s0 : w.cell? ⟨B + 2, 0, none⟩ = some (.string ⟨#[35, 120]⟩)
 f0 : w.cell? ⟨B + 2, 1, none⟩ = some (.func (.func 156) #[] #[.pointer (some ⟨B, 0, none⟩)])
 s1 : w.cell? ⟨B + 2, 2, none⟩ = some (.string ⟨#[35]⟩)
 f1 : w.cell? ⟨B + 2, 3, none⟩ = some (.func (.func 156) #[] #[.pointer (some ⟨B + 1, 0, none⟩)])
 s2 : w.cell? ⟨B + 2, 4, none⟩ = some (.string ⟨#[]⟩)
 f2 : w.cell? ⟨B + 2, 5, none⟩ = some (.func (.func 135) #[] #[])
theorem ways_any (w : World) : Calls Tryz.prog 102 #[] w fun e w' => e = .returned (.slice (some ⟨w.heap.size + 2, 0, none⟩) 3 3) ∧ WaysAt w.heap.size w' ∧ Below w.heap.size w w' ∧ w'.heap.size = w.heap.size + 3 := by
 have hm := hmf
 go_enter Tryz.func102, Tryz.ntmps102
 go_wp2_with fail
 refine (number_make 16 _).mono ?_
 rintro e w1 ⟨rfl, rfl⟩
 go_wp2_with fail
 refine (number_make 10 _).mono ?_
 rintro e w1 ⟨rfl, rfl⟩
 go_wp2_with fail
 go_ret
 refine ⟨rfl, ⟨?_, ?_, ?_, ?_, ?_, ?_, ?_, ?_⟩, (((Below.refl _ _).alloc (Nat.le_refl _) _).alloc (by simp) _).alloc (by first | (simp; done) | (simp; omega)) _, by simp⟩
 all_goals go_simp
theorem hasPrefix_split {l p : List UInt8} (h : Lib.hasPrefix l p = true) : ∃ r, l = p ++ r ∧ Lib.trimPrefix l p = r := by
 have h' := h
 unfold Lib.hasPrefix at h'
 rw [List.isPrefixOf_iff_prefix] at h'
 obtain ⟨r, rfl⟩ := h'
 exact ⟨r, rfl, by simp [Lib.trimPrefix, h]⟩
theorem hasPrefix_two (l : List UInt8) (h : Lib.hasPrefix l [35, 120] = true) : refV l = numRef 16 (Lib.trimPrefix l [35, 120]) := by
 obtain ⟨r, rfl, e⟩ := hasPrefix_split h
 rw [e]
 rfl
theorem hasPrefix_one (l : List UInt8) (h0 : Lib.hasPrefix l [35, 120] = false) (h : Lib.hasPrefix l [35] = true) : refV l = numRef 10 (Lib.trimPrefix l [35]) := by
 obtain ⟨r, rfl, e⟩ := hasPrefix_split h
 rw [e]
 cases r with
 | nil => rfl
 | cons b r =>
  have hb : b ≠ 120 := by rintro rfl; simp [Lib.hasPrefix] at h0
  show refV (35 :: b :: r) = _
  unfold refV
  split
  ·
   rename_i heq; simp at heq; exact absurd heq.1 hb
  ·
   rename_i heq; simp at heq; rw [heq]
  ·
   rename_i h2; exact absurd rfl (h2 _)
theorem hasPrefix_none (l : List UInt8) (h : Lib.hasPrefix l [35] = false) : refV l = nameV l := by
 unfold refV
 split
 ·
  simp [Lib.hasPrefix] at h
 ·
  simp [Lib.hasPrefix] at h
 ·
  rfl
theorem trimPrefix_nil (l : List UInt8) : Lib.trimPrefix l [] = l := by simp [Lib.trimPrefix, Lib.hasPrefix]
theorem RefOut.form {o : Option Nat} {e : Ending} (h : RefOut o e) : ∃ (r : Int) (b : Bool), e = .returned (.tuple #[.int .i32 r, .bool b]) ∧ RefOut o (.returned (.tuple #[.int .i32 r, .bool b])) := by
 cases o with
 | none => obtain ⟨r, rfl⟩ := h; exact ⟨r, false, rfl, r, rfl⟩
 | some c => obtain rfl : e = _ := h; exact ⟨c, true, rfl, rfl⟩
theorem cut2 (s : ByteArray) (w : World) : Calls Tryz.prog 103 #[.string s, .string ⟨#[35, 120]⟩] w fun e w' => e = .returned (.tuple #[.string ⟨(Lib.trimPrefix s.data.toList [35, 120]).toArray⟩, .bool (Lib.hasPrefix s.data.toList [35, 120])]) ∧ w' = w := Any.strings_CutPrefix Tryz.lays103 s ⟨#[35, 120]⟩ w
theorem cut1 (s : ByteArray) (w : World) : Calls Tryz.prog 103 #[.string s, .string ⟨#[35]⟩] w fun e w' => e = .returned (.tuple #[.string ⟨(Lib.trimPrefix s.data.toList [35]).toArray⟩, .bool (Lib.hasPrefix s.data.toList [35])]) ∧ w' = w := Any.strings_CutPrefix Tryz.lays103 s ⟨#[35]⟩ w
theorem cut0 (s : ByteArray) (w : World) : Calls Tryz.prog 103 #[.string s, .string ⟨#[]⟩] w fun e w' => e = .returned (.tuple #[.string s, .bool true]) ∧ w' = w := by
 have := Any.strings_CutPrefix Tryz.lays103 s ⟨#[]⟩ w
 change Calls Tryz.prog 103 #[.string s, .string ⟨#[]⟩] w fun e w' => e = .returned (.tuple #[.string ⟨(Lib.trimPrefix s.data.toList []).toArray⟩, .bool (Lib.hasPrefix s.data.toList [])]) ∧ w' = w at this
 rw [trimPrefix_nil] at this
 exact this
theorem trimPrefix_le (l p : List UInt8) : (Lib.trimPrefix l p).length ≤ l.length := by
 unfold Lib.trimPrefix
 split
 ·
  simp
 ·
  exact Nat.le_refl _
theorem reference_any (s : ByteArray) (w : World) (hG : Glob w) (hm : s.size ≤ 140737488355328) : Calls Tryz.prog 68 #[.string s] w fun e w' => RefOut (refV s.data.toList) e ∧ Below w.heap.size w w' := by
 have q2 := cut2 s
 have q1 := cut1 s
 cases hA : Lib.hasPrefix s.data.toList [35, 120] with
 | true =>
  have Hr := Lib.hid (hasPrefix_two _ hA)
  rw [hA] at q2
  clear q1 hA
  have hl : (Lib.trimPrefix s.data.toList [35, 120]).length ≤ s.size := by rw [Lib.size_eq]; exact trimPrefix_le _ _
  generalize Lib.trimPrefix s.data.toList [35, 120] = t at *
  have Q2 := Lib.hid q2
  clear q2
  go_enter Tryz.func68, Tryz.ntmps68
  go_wp2_with fail
  refine (ways_any w).mono ?_
  rintro e w1 ⟨rfl, ⟨c1, c2, c3, c4, c5, c6, c7, c8⟩, hb, hs⟩
  go_wp2_with fail
  refine wp_loop_rounds 3 ?_
  rw [rounds_succ]
  go_wp2_with fail
  refine (Q2.out _).mono ?_
  rintro e w2 ⟨rfl, rfl⟩
  go_wp2_with fail
  refine (number_any 16 (.inr rfl) ⟨t.toArray⟩ w.heap.size _ (by go_simp) (hG.below (hb.alloc (by omega) _)) (by show t.toArray.size ≤ _; simp; omega)).mono ?_
  rintro e w5 ⟨he, hb5⟩
  obtain ⟨r, b, rfl, hro⟩ := he.form
  have Hro := Lib.hid hro
  clear hro
  go_wp2_with fail
  go_ret2
  refine ⟨by rw [Hr.out]; exact Hro, ?_⟩
  exact (hb.alloc (by omega) _).trans (hb5.mono (by first | (simp; done) | (simp; omega)))
 | false =>
  rw [hA] at q2
  cases hB : Lib.hasPrefix s.data.toList [35] with
  | true =>
   have Hr := Lib.hid (hasPrefix_one _ hA hB)
   rw [hB] at q1
   clear hA hB
   generalize Lib.trimPrefix s.data.toList [35, 120] = t2 at *
   have hl : (Lib.trimPrefix s.data.toList [35]).length ≤ s.size := by rw [Lib.size_eq]; exact trimPrefix_le _ _
   generalize Lib.trimPrefix s.data.toList [35] = t at *
   have Q2 := Lib.hid q2
   have Q1 := Lib.hid q1
   clear q2 q1
   go_enter Tryz.func68, Tryz.ntmps68
   go_wp2_with fail
   refine (ways_any w).mono ?_
   rintro e w1 ⟨rfl, ⟨c1, c2, c3, c4, c5, c6, c7, c8⟩, hb, hs⟩
   go_wp2_with fail
   refine wp_loop_rounds 3 ?_
   rw [rounds_succ]
   go_wp2_with fail
   refine (Q2.out _).mono ?_
   rintro e w2 ⟨rfl, rfl⟩
   go_wp2_with fail
   rw [rounds_succ]
   go_wp2_with fail
   refine (Q1.out _).mono ?_
   rintro e w3 ⟨rfl, rfl⟩
   go_wp2_with fail
   refine (number_any 10 (.inl rfl) ⟨t.toArray⟩ (w.heap.size + 1) _ (by go_simp) (hG.below ((hb.alloc (by omega) _).alloc (by first | (simp; done) | (simp; omega)) _)) (by show t.toArray.size ≤ _; simp; omega)).mono ?_
   rintro e w5 ⟨he, hb5⟩
   obtain ⟨r, b, rfl, hro⟩ := he.form
   have Hro := Lib.hid hro
   clear hro
   go_wp2_with fail
   go_ret2
   refine ⟨by rw [Hr.out]; exact Hro, ?_⟩
   exact ((hb.alloc (by omega) _).alloc (by first | (simp; done) | (simp; omega)) _).trans (hb5.mono (by first | (simp; done) | (simp; omega)))
  | false =>
   have Hr := Lib.hid (hasPrefix_none _ hB)
   rw [hB] at q1
   clear hA hB
   generalize Lib.trimPrefix s.data.toList [35, 120] = t2 at *
   generalize Lib.trimPrefix s.data.toList [35] = t at *
   have Q2 := Lib.hid q2
   have Q1 := Lib.hid q1
   clear q2 q1
   go_enter Tryz.func68, Tryz.ntmps68
   go_wp2_with fail
   refine (ways_any w).mono ?_
   rintro e w1 ⟨rfl, ⟨c1, c2, c3, c4, c5, c6, c7, c8⟩, hb, hs⟩
   go_wp2_with fail
   refine wp_loop_rounds 3 ?_
   rw [rounds_succ]
   go_wp2_with fail
   refine (Q2.out _).mono ?_
   rintro e w2 ⟨rfl, rfl⟩
   go_wp2_with fail
   rw [rounds_succ]
   go_wp2_with fail
   refine (Q1.out _).mono ?_
   rintro e w3 ⟨rfl, rfl⟩
   go_wp2_with fail
   rw [rounds_succ]
   go_wp2_with fail
   refine (cut0 s _).mono ?_
   rintro e w4 ⟨rfl, rfl⟩
   go_wp2_with fail
   refine (ways1_any s _).mono ?_
   rintro e w5 ⟨he, hb5⟩
   obtain ⟨r, b, rfl, hro⟩ := he.form
   have Hro := Lib.hid hro
   clear hro
   go_wp2_with fail
   go_ret2
   refine ⟨by rw [Hr.out]; exact Hro, ?_⟩
   exact (((hb.alloc (by omega) _).alloc (by first | (simp; done) | (simp; omega)) _).alloc (by first | (simp; done) | (simp; omega)) _).trans (hb5.mono (by first | (simp; done) | (simp; omega)))
end Go.Proofs.YtknfpggiigncpaaGreatDoor.P
