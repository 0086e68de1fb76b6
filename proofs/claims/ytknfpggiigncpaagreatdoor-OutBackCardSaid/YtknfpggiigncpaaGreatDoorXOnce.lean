/- strings.Replacer.Replace's once.Do, the first time, ONE goroutine. -/
import Derived.Test.YtknfpggiigncpaaGreatDoorXBuild
import Derived.Tactics
import Derived.Tactics2
import Derived.Defers
import Derived.Laws.Pointers
import Derived.Laws.LoneSync
import Derived.RegionTactic
import Derived.RegionCalls
import Derived.ChangeAlike
set_option maxHeartbeats 4000000
set_option maxRecDepth 100000
set_option linter.unusedVariables false
set_option linter.unusedSimpArgs false
namespace Go.Proofs.YtknfpggiigncpaaGreatDoor.P
open Go.RowKit YtknfpggiigncpaaGreatDoorW.PrintWords
theorem disable (w : World) : (callFunc 187 #[]).run Tryz.prog w = .ok (.value (.tuple #[])) w := run_call_mark0 Tryz.func187 (by kernel_rfl) (by kernel_rfl) (by kernel_rfl) .disable (by kernel_rfl) w
theorem enable (w : World) : (callFunc 189 #[]).run Tryz.prog w = .ok (.value (.tuple #[])) w := run_call_mark0 Tryz.func189 (by kernel_rfl) (by kernel_rfl) (by kernel_rfl) .enable (by kernel_rfl) w
theorem acquire (a : Addr) (w : World) : (callFunc 190 #[.pointer (some a)]).run Tryz.prog w = .ok (.value (.tuple #[])) w := run_call_marked Tryz.func190 (by kernel_rfl) (by kernel_rfl) (by kernel_rfl) .acquire (by kernel_rfl) a w
theorem releaseMerge (a : Addr) (w : World) : (callFunc 192 #[.pointer (some a)]).run Tryz.prog w = .ok (.value (.tuple #[])) w := run_call_marked Tryz.func192 (by kernel_rfl) (by kernel_rfl) (by kernel_rfl) .releaseMerge (by kernel_rfl) a w
theorem store_deferred (a : Addr) (x : Value) (u : FrameMode) (w : World) (hc : w.cell? a = some x) (hz : w.frozen? a = false) :
  CallsD Tryz.prog 162 #[.pointer (some a), .bool true] u w fun e u' w' => u' = u ∧ (e = .returned (.tuple #[]) ∧ w' = w.drew.setCell a (.int .u32 1)) := by
 have hc' : w.drew.cell? a = some x := by go_simp
 have hz' : w.drew.frozen? a = false := by go_simp
 have hst := run_call_store (P := Tryz.prog) Tryz.func175 (by kernel_rfl) (by kernel_rfl) (by kernel_rfl) (by kernel_rfl) (k := .u32) (y := 1) hc' hz'
 go_enter_d Tryz.func162, Tryz.ntmps162
 go_wp2
 go_region_calls
 all_goals (go_end0; exact ⟨rfl, rfl⟩)
theorem unlock_in (a : Addr) (w : World) (hc : w.cell? a = some (.int .i32 1)) (hz : w.frozen? a = false) :
  Calls Tryz.prog 174 #[.pointer (some a)] w fun e w' => e = .returned (.tuple #[]) ∧ w' = w.setCell a (.int .i32 0) := by
 have hd := disable
 have he := enable
 have hr := releaseMerge
 have hadd := run_call_add (P := Tryz.prog) Tryz.func193 (by kernel_rfl) (by kernel_rfl) (by kernel_rfl) .i32 (by kernel_rfl) (y := -1) (s := 0) hc hz (by simp [go_sem]; rfl)
 have hcv := run_convert_to_unsafe (P := Tryz.prog) (src := 245) (dst := 177) Tryz.underlying245 Tryz.underlying177 (by kernel_rfl) hc
 go_enter Tryz.func174, Tryz.ntmps174
 go_wp2
 go_end0
 exact ⟨rfl, rfl⟩
theorem unlock_deferred (a : Addr) (u : FrameMode) (w : World) (hc : w.cell? a = some (.int .i32 1)) (hz : w.frozen? a = false) :
  CallsD Tryz.prog 161 #[.pointer (some a)] u w fun e u' w' => u' = u ∧ (e = .returned (.tuple #[]) ∧ w' = w.setCell a (.int .i32 0)) := by
 go_enter_d Tryz.func161, Tryz.ntmps161
 go_wp2_with (go_at_call 174; refine (unlock_in a _ hc hz).mono ?_; rintro e w' ⟨rfl, rfl⟩)
 go_end0
 exact ⟨rfl, rfl⟩
theorem lock_in (a : Addr) (w : World) (hc : w.cell? a = some (.int .i32 0)) (hz : w.frozen? a = false) :
  Calls Tryz.prog 173 #[.pointer (some a)] w fun e w' => e = .returned (.tuple #[]) ∧ w' = w.setCell a (.int .i32 1) := by
 have hd := disable
 have he := enable
 have ha := acquire
 have hcas := run_call_cas_hit (P := Tryz.prog) Tryz.func188 (by kernel_rfl) (by kernel_rfl) (by kernel_rfl) .i32 (by kernel_rfl) (y := 1) hc hz
 have hc' : (w.setCell a (.int .i32 1)).cell? a = some (.int .i32 1) := World.cell?_setCell_same w a _ hc
 have hcv := run_convert_to_unsafe (P := Tryz.prog) (src := 245) (dst := 177) Tryz.underlying245 Tryz.underlying177 (by kernel_rfl) hc'
 go_enter Tryz.func173, Tryz.ntmps173
 go_wp2
 first | go_end0 | (simp only [Exit.inBlock, Exit.then]; refine bodyPost_ret (results_none rfl _ _ _) rfl ?_) | refine bodyPost_ret (results_none rfl _ _ _) rfl ?_
 exact ⟨rfl, rfl⟩
theorem lock_free (a : Addr) (w : World) (hc : w.cell? a = some (.int .i32 0)) (hz : w.frozen? a = false) :
  Calls Tryz.prog 160 #[.pointer (some a)] w fun e w' => e = .returned (.tuple #[]) ∧ w' = w.setCell a (.int .i32 1) := by
 go_enter Tryz.func160, Tryz.ntmps160
 go_wp2_with (go_at_call 173; refine (lock_in a _ hc hz).mono ?_; rintro e w' ⟨rfl, rfl⟩)
 go_end0
 exact ⟨rfl, rfl⟩
def Blk (B : Nat) (w : World) (a b c d e : Value) : Prop := w.heap[B]? = some (.cells #[a, b, c, d, e] 160 (0, 0))
theorem Blk.at_ {B : Nat} {w : World} {a b c d e : Value} (h : Blk B w a b c d e) (i : Nat) : w.cell? ⟨B, i, none⟩ = #[a, b, c, d, e][i]? := cell_of_row _ _ _ _ _ _ h
theorem Blk.free {B : Nat} {w : World} {a b c d e : Value} (h : Blk B w a b c d e) (i : Nat) : w.frozen? ⟨B, i, none⟩ = false := frozen_of_row _ _ _ _ _ h
theorem Blk.put {B : Nat} {w : World} {a b c d e : Value} (h : Blk B w a b c d e) (i : Nat) (v : Value) : (w.setCell ⟨B, i, none⟩ v).heap[B]? = some (.cells (#[a, b, c, d, e].setIfInBounds i v) 160 (0, 0)) := heap_setCell_same _ _ _ _ _ _ h
theorem Blk.below {B K : Nat} {w W : World} {a b c d e : Value} (h : Blk B w a b c d e) (hb : Below K w W) (hK : B < K) : Blk B W a b c d e := (hb.block B hK).trans h
theorem Blk.lt {B : Nat} {w : World} {a b c d e : Value} (h : Blk B w a b c d e) : B < w.heap.size := (Array.getElem?_eq_some_iff.1 h).1
theorem buildOnce_any (B g cap : Nat) (c0 c1 c2 c3 : Value) (w : World) (hB : Blk B w c0 c1 c2 c3 (.slice (some ⟨g, 0, none⟩) 16 cap)) (hA : Args g w) :
  Calls Tryz.prog 107 #[.pointer (some ⟨B, 0, none⟩)] w fun e w' => e = .returned (.tuple #[]) ∧
   ∃ rb, Blk B w' c0 c1 c2 (.iface 219 (.pointer (some ⟨rb, 0, none⟩))) (.slice none 0 0) ∧ RepFrom w.heap.size rb w' ∧ Below B w w' ∧ w.heap.size ≤ w'.heap.size := by
 have HB := Lib.hid hB
 have hlt := hB.lt
 clear hB
 go_enter Tryz.func107, Tryz.ntmps107
 go_wp2_with fail
 refine (build_any B g cap w (HB.out.at_ 4) hA).mono ?_
 rintro e w1 ⟨rb, rfl, hrep, hb1⟩
 have hB1 := HB.out.below hb1 hlt
 have k3 := hB1.at_ 3
 have f3 := hB1.free 3
 have k4 := hB1.at_ 4
 have f4 := hB1.free 4
 have HB1 := Lib.hid hB1
 clear hB1
 go_wp2_with fail
 go_end0
 have hB2 : Blk B (w1.setCell ⟨B, 3, none⟩ (.iface 219 (.pointer (some ⟨rb, 0, none⟩)))) c0 c1 c2 (.iface 219 (.pointer (some ⟨rb, 0, none⟩))) (.slice (some ⟨g, 0, none⟩) 16 cap) := HB1.out.put 3 _
 refine ⟨rfl, rb, hB2.put 4 _, fun W hW => hrep W fun q h1 h2 => ?_, ?_, ?_⟩
 ·
  refine (hW q h1 (by simpa using h2)).trans ?_
  rw [heap_setCell_other _ _ _ _ (show q ≠ B by omega), heap_setCell_other _ _ _ _ (show q ≠ B by omega)]
 ·
  have hbB : Below B w w1 := hb1.mono (Nat.le_of_lt hlt)
  exact (hbB.setCell (p := ⟨B, 3, none⟩) (Nat.le_refl _) _).setCell (p := ⟨B, 4, none⟩) (Nat.le_refl _) _
 ·
  simpa using hb1.size
theorem load_zero (a : Addr) (w : World) (h : w.cell? a = some (.int .u32 0)) : Calls Tryz.prog 139 #[.pointer (some a)] w fun e w' => e = .returned (.bool false) ∧ w' = w := by
 have hl := run_call_load (P := Tryz.prog) Tryz.func159 (by kernel_rfl) (by kernel_rfl) (by kernel_rfl) .u32 (by kernel_rfl) (w := w) (a := a) (x := 0) h
 go_enter Tryz.func139, Tryz.ntmps139
 go_wp2
 go_ret
 exact ⟨rfl, rfl⟩
theorem slow_any (B g cap : Nat) (w : World) (hB : Blk B w (.int .u32 0) (.int .i32 0) (.int .u32 0) .nilIface (.slice (some ⟨g, 0, none⟩) 16 cap)) (hA : Args g w) (hgB : g < B) :
  Calls Tryz.prog 140 #[.pointer (some ⟨B, 0, none⟩), .func (.func 107) #[.pointer (some ⟨B, 0, none⟩)] #[]] w fun e w' => e = .returned (.tuple #[]) ∧
   ∃ rb, w'.cell? ⟨B, 3, none⟩ = some (.iface 219 (.pointer (some ⟨rb, 0, none⟩))) ∧ Rep rb w' ∧ Below B w w' ∧ B < w'.heap.size := by
 have HB := Lib.hid hB
 have HA := Lib.hid hA
 have hlt := hB.lt
 have hB1 : Blk B (w.setCell ⟨B, 1, none⟩ (.int .i32 1)) (.int .u32 0) (.int .i32 1) (.int .u32 0) .nilIface (.slice (some ⟨g, 0, none⟩) 16 cap) := hB.put 1 _
 have hA1 : Args g (w.setCell ⟨B, 1, none⟩ (.int .i32 1)) := fun k hk => ⟨(cell_congr (heap_setCell_other _ _ _ _ (show g ≠ B by omega))).trans (hA k hk).1, (cell_congr (heap_setCell_other _ _ _ _ (show g ≠ B by omega))).trans (hA k hk).2⟩
 have hl := load_zero ⟨B, 0, none⟩ _ (hB1.at_ 0)
 have hnot : ∀ (x : Bool) (w : World), (Op.unary .not (.bool x)).run Tryz.prog w = .ok (.bool (!x)) w := fun _ _ => rfl
 have k1 := hB.at_ 1
 have f1 := hB.free 1
 have HB1 := Lib.hid hB1
 have HA1 := Lib.hid hA1
 clear hB hA hB1 hA1
 go_enter_defers Tryz.func140, Tryz.ntmps140
 go_wp2_with (go_at_call 160; refine (lock_free ⟨B, 1, none⟩ _ k1 f1).mono ?_; rintro e w' ⟨rfl, rfl⟩)
 refine hl.mono ?_
 rintro e w1 ⟨rfl, rfl⟩
 go_wp2_with fail
 refine (buildOnce_any B g cap _ _ _ _ _ HB1.out HA1.out).mono ?_
 rintro e w2 ⟨rfl, rb, hB2, hrep, hb2, hs2⟩
 have HB2 := Lib.hid hB2
 clear hB2
 go_wp2_with fail
 have hB3 : Blk B w2.drew (.int .u32 0) (.int .i32 1) (.int .u32 0) (.iface 219 (.pointer (some ⟨rb, 0, none⟩))) (.slice none 0 0) := HB2.out
 have hB4 : Blk B (w2.drew.setCell ⟨B, 0, none⟩ (.int .u32 1)) (.int .u32 1) (.int .i32 1) (.int .u32 0) (.iface 219 (.pointer (some ⟨rb, 0, none⟩))) (.slice none 0 0) := hB3.put 0 _
 have hB5 : Blk B ((w2.drew.setCell ⟨B, 0, none⟩ (.int .u32 1)).setCell ⟨B, 1, none⟩ (.int .i32 0)) (.int .u32 1) (.int .i32 0) (.int .u32 0) (.iface 219 (.pointer (some ⟨rb, 0, none⟩))) (.slice none 0 0) := hB4.put 1 _
 refine leaves_cons (f := 162) (args := #[.pointer (some ⟨B, 0, none⟩), .bool true]) (by simp) (by simp [go_sem]) ?_
 refine (store_deferred ⟨B, 0, none⟩ _ .returning _ (HB2.out.at_ 0) (HB2.out.free 0)).mono ?_
 rintro e u' w'' ⟨rfl, rfl, rfl⟩
 refine leaves_cons (f := 161) (args := #[.pointer (some ⟨B, 1, none⟩)]) (by simp [settle]) (by simp [go_sem]) ?_
 refine (unlock_deferred ⟨B, 1, none⟩ _ _ (hB4.at_ 1) (hB4.free 1)).mono ?_
 rintro e u' w'' ⟨rfl, rfl, rfl⟩
 have hfin : ∃ rb, ((w2.drew.setCell ⟨B, 0, none⟩ (.int .u32 1)).setCell ⟨B, 1, none⟩ (.int .i32 0)).cell? ⟨B, 3, none⟩ = some (.iface 219 (.pointer (some ⟨rb, 0, none⟩))) ∧ Rep rb ((w2.drew.setCell ⟨B, 0, none⟩ (.int .u32 1)).setCell ⟨B, 1, none⟩ (.int .i32 0)) ∧ Below B w ((w2.drew.setCell ⟨B, 0, none⟩ (.int .u32 1)).setCell ⟨B, 1, none⟩ (.int .i32 0)) ∧ B < ((w2.drew.setCell ⟨B, 0, none⟩ (.int .u32 1)).setCell ⟨B, 1, none⟩ (.int .i32 0)).heap.size := by
  refine ⟨rb, hB5.at_ 3, hrep _ fun q h1 h2 => ?_, ?_, hB5.lt⟩
  ·
   have h1' : w.heap.size ≤ q := by simpa using h1
   rw [heap_setCell_other _ _ _ _ (show q ≠ B by omega), heap_setCell_other _ _ _ _ (show q ≠ B by omega)]
   rfl
  ·
   have g1 : Below B w (w.setCell ⟨B, 1, none⟩ (.int .i32 1)) := (Below.refl B w).setCell (p := ⟨B, 1, none⟩) (Nat.le_refl _) _
   have g2 : Below B w w2.drew := (g1.trans hb2).trans ⟨rfl, rfl, rfl, Nat.le_refl _, fun _ _ => rfl⟩
   exact (g2.setCell (p := ⟨B, 0, none⟩) (Nat.le_refl _) _).setCell (p := ⟨B, 1, none⟩) (Nat.le_refl _) _
 simp [Leaves, settle, results, Tryz.results140]
 obtain ⟨rb, h1, h2, h3, h4⟩ := hfin
 exact ⟨rb, h1, h2, h3, by simpa using h4⟩
theorem do_first (B g cap : Nat) (w : World) (hB : Blk B w (.int .u32 0) (.int .i32 0) (.int .u32 0) .nilIface (.slice (some ⟨g, 0, none⟩) 16 cap)) (hA : Args g w) (hgB : g < B) :
  Calls Tryz.prog 106 #[.pointer (some ⟨B, 0, none⟩), .func (.func 107) #[.pointer (some ⟨B, 0, none⟩)] #[]] w fun e w' => e = .returned (.tuple #[]) ∧
   ∃ rb, w'.cell? ⟨B, 3, none⟩ = some (.iface 219 (.pointer (some ⟨rb, 0, none⟩))) ∧ Rep rb w' ∧ Below B w w' ∧ B < w'.heap.size := by
 have hl := load_zero ⟨B, 0, none⟩ _ (hB.at_ 0)
 have hs := slow_any B g cap w hB hA hgB
 have Hs := Lib.hid hs
 have hnot : ∀ (x : Bool) (w : World), (Op.unary .not (.bool x)).run Tryz.prog w = .ok (.bool (!x)) w := fun _ _ => rfl
 clear hs hB hA
 go_enter Tryz.func106, Tryz.ntmps106
 go_wp2_with fail
 refine hl.mono ?_
 rintro e w1 ⟨rfl, rfl⟩
 go_wp2_with fail
 refine Hs.out.mono ?_
 rintro e w2 ⟨rfl, h⟩
 have H := Lib.hid h
 clear h
 go_wp2_with fail
 go_end0
 exact ⟨rfl, H.out⟩
theorem replacer_Replace (B g cap : Nat) (s : ByteArray) (w : World) (hB : Blk B w (.int .u32 0) (.int .i32 0) (.int .u32 0) .nilIface (.slice (some ⟨g, 0, none⟩) 16 cap)) (hA : Args g w) (hgB : g < B) (hs : s.size * 6 ≤ 140737488355328) :
  Calls Tryz.prog 73 #[.pointer (some ⟨B, 0, none⟩), .string s] w fun e w' => e = .returned (.string ⟨(escL s.data.toList).toArray⟩) ∧ Below B w w' := by
 have hd := do_first B g cap w hB hA hgB
 have Hd := Lib.hid hd
 have Hs := Lib.hid hs
 clear hd hB hA hs
 go_enter Tryz.func73, Tryz.ntmps73
 go_wp2_with fail
 refine Hd.out.mono ?_
 rintro e w1 ⟨rfl, rb, h3, hrep, hb1, hlt⟩
 go_wp2_with fail
 refine (bsr_Replace rb s w1 hrep Hs.out).mono ?_
 rintro e w2 ⟨rfl, hb2⟩
 go_wp2_with fail
 go_ret
 exact ⟨rfl, hb1.trans (hb2.mono (by omega))⟩
theorem args_of_row {W : World} {g : Nat} {z : Array Value} {t : TypeId} {fr : Nat × Nat} {u7 v7 u6 v6 u5 v5 u4 v4 u3 v3 u2 v2 u1 v1 u0 v0 : ByteArray} (h : W.heap[g]? = some (.cells (#[.string u7, .string v7, .string u6, .string v6, .string u5, .string v5, .string u4, .string v4, .string u3, .string v3, .string u2, .string v2, .string u1, .string v1, .string u0, .string v0] ++ z) t fr)) (hu0 : (⟨#[keys8[0]]⟩ : ByteArray) = u0) (hv0 : (⟨(escByte keys8[0]).toArray⟩ : ByteArray) = v0) (hu1 : (⟨#[keys8[1]]⟩ : ByteArray) = u1) (hv1 : (⟨(escByte keys8[1]).toArray⟩ : ByteArray) = v1) (hu2 : (⟨#[keys8[2]]⟩ : ByteArray) = u2) (hv2 : (⟨(escByte keys8[2]).toArray⟩ : ByteArray) = v2) (hu3 : (⟨#[keys8[3]]⟩ : ByteArray) = u3) (hv3 : (⟨(escByte keys8[3]).toArray⟩ : ByteArray) = v3) (hu4 : (⟨#[keys8[4]]⟩ : ByteArray) = u4) (hv4 : (⟨(escByte keys8[4]).toArray⟩ : ByteArray) = v4) (hu5 : (⟨#[keys8[5]]⟩ : ByteArray) = u5) (hv5 : (⟨(escByte keys8[5]).toArray⟩ : ByteArray) = v5) (hu6 : (⟨#[keys8[6]]⟩ : ByteArray) = u6) (hv6 : (⟨(escByte keys8[6]).toArray⟩ : ByteArray) = v6) (hu7 : (⟨#[keys8[7]]⟩ : ByteArray) = u7) (hv7 : (⟨(escByte keys8[7]).toArray⟩ : ByteArray) = v7) : Args g W := by
 subst hu0
 subst hv0
 subst hu1
 subst hv1
 subst hu2
 subst hv2
 subst hu3
 subst hv3
 subst hu4
 subst hv4
 subst hu5
 subst hv5
 subst hu6
 subst hv6
 subst hu7
 subst hv7
 intro k hk
 have hc := fun j => cell_of_row W g j _ _ _ h
 by_cases h0 : k = 0
 ·
  subst h0
  exact ⟨(hc 14).trans (by rw [Array.getElem?_append_left (by simp)]; rfl), (hc 15).trans (by rw [Array.getElem?_append_left (by simp)]; rfl)⟩
 by_cases h1 : k = 1
 ·
  subst h1
  exact ⟨(hc 12).trans (by rw [Array.getElem?_append_left (by simp)]; rfl), (hc 13).trans (by rw [Array.getElem?_append_left (by simp)]; rfl)⟩
 by_cases h2 : k = 2
 ·
  subst h2
  exact ⟨(hc 10).trans (by rw [Array.getElem?_append_left (by simp)]; rfl), (hc 11).trans (by rw [Array.getElem?_append_left (by simp)]; rfl)⟩
 by_cases h3 : k = 3
 ·
  subst h3
  exact ⟨(hc 8).trans (by rw [Array.getElem?_append_left (by simp)]; rfl), (hc 9).trans (by rw [Array.getElem?_append_left (by simp)]; rfl)⟩
 by_cases h4 : k = 4
 ·
  subst h4
  exact ⟨(hc 6).trans (by rw [Array.getElem?_append_left (by simp)]; rfl), (hc 7).trans (by rw [Array.getElem?_append_left (by simp)]; rfl)⟩
 by_cases h5 : k = 5
 ·
  subst h5
  exact ⟨(hc 4).trans (by rw [Array.getElem?_append_left (by simp)]; rfl), (hc 5).trans (by rw [Array.getElem?_append_left (by simp)]; rfl)⟩
 by_cases h6 : k = 6
 ·
  subst h6
  exact ⟨(hc 2).trans (by rw [Array.getElem?_append_left (by simp)]; rfl), (hc 3).trans (by rw [Array.getElem?_append_left (by simp)]; rfl)⟩
 by_cases h7 : k = 7
 ·
  subst h7
  exact ⟨(hc 0).trans (by rw [Array.getElem?_append_left (by simp)]; rfl), (hc 1).trans (by rw [Array.getElem?_append_left (by simp)]; rfl)⟩
 omega
theorem newReplacer_any (g cap : Nat) (w : World) (hA : Args g w) :
  Calls Tryz.prog 72 #[.slice (some ⟨g, 0, none⟩) 16 cap] w fun e w' => ∃ B g' cap', e = .returned (.pointer (some ⟨B, 0, none⟩)) ∧ Blk B w' (.int .u32 0) (.int .i32 0) (.int .u32 0) .nilIface (.slice (some ⟨g', 0, none⟩) 16 cap') ∧ Args g' w' ∧ g' < B ∧ w.heap.size ≤ B ∧ Below w.heap.size w w' := by
 have p14 : w.cell? ⟨g, 14, none⟩ = some (.string ⟨#[keys8[0]]⟩) := (hA 0 (by omega)).1
 have p15 : w.cell? ⟨g, 15, none⟩ = some (.string ⟨(escByte keys8[0]).toArray⟩) := (hA 0 (by omega)).2
 have p12 : w.cell? ⟨g, 12, none⟩ = some (.string ⟨#[keys8[1]]⟩) := (hA 1 (by omega)).1
 have p13 : w.cell? ⟨g, 13, none⟩ = some (.string ⟨(escByte keys8[1]).toArray⟩) := (hA 1 (by omega)).2
 have p10 : w.cell? ⟨g, 10, none⟩ = some (.string ⟨#[keys8[2]]⟩) := (hA 2 (by omega)).1
 have p11 : w.cell? ⟨g, 11, none⟩ = some (.string ⟨(escByte keys8[2]).toArray⟩) := (hA 2 (by omega)).2
 have p8 : w.cell? ⟨g, 8, none⟩ = some (.string ⟨#[keys8[3]]⟩) := (hA 3 (by omega)).1
 have p9 : w.cell? ⟨g, 9, none⟩ = some (.string ⟨(escByte keys8[3]).toArray⟩) := (hA 3 (by omega)).2
 have p6 : w.cell? ⟨g, 6, none⟩ = some (.string ⟨#[keys8[4]]⟩) := (hA 4 (by omega)).1
 have p7 : w.cell? ⟨g, 7, none⟩ = some (.string ⟨(escByte keys8[4]).toArray⟩) := (hA 4 (by omega)).2
 have p4 : w.cell? ⟨g, 4, none⟩ = some (.string ⟨#[keys8[5]]⟩) := (hA 5 (by omega)).1
 have p5 : w.cell? ⟨g, 5, none⟩ = some (.string ⟨(escByte keys8[5]).toArray⟩) := (hA 5 (by omega)).2
 have p2 : w.cell? ⟨g, 2, none⟩ = some (.string ⟨#[keys8[6]]⟩) := (hA 6 (by omega)).1
 have p3 : w.cell? ⟨g, 3, none⟩ = some (.string ⟨(escByte keys8[6]).toArray⟩) := (hA 6 (by omega)).2
 have p0 : w.cell? ⟨g, 0, none⟩ = some (.string ⟨#[keys8[7]]⟩) := (hA 7 (by omega)).1
 have p1 : w.cell? ⟨g, 1, none⟩ = some (.string ⟨(escByte keys8[7]).toArray⟩) := (hA 7 (by omega)).2
 obtain ⟨u0, hu0⟩ : ∃ u, (⟨#[keys8[0]]⟩ : ByteArray) = u := ⟨_, rfl⟩
 obtain ⟨v0, hv0⟩ : ∃ u, (⟨(escByte keys8[0]).toArray⟩ : ByteArray) = u := ⟨_, rfl⟩
 rw [hu0] at p14
 rw [hv0] at p15
 obtain ⟨u1, hu1⟩ : ∃ u, (⟨#[keys8[1]]⟩ : ByteArray) = u := ⟨_, rfl⟩
 obtain ⟨v1, hv1⟩ : ∃ u, (⟨(escByte keys8[1]).toArray⟩ : ByteArray) = u := ⟨_, rfl⟩
 rw [hu1] at p12
 rw [hv1] at p13
 obtain ⟨u2, hu2⟩ : ∃ u, (⟨#[keys8[2]]⟩ : ByteArray) = u := ⟨_, rfl⟩
 obtain ⟨v2, hv2⟩ : ∃ u, (⟨(escByte keys8[2]).toArray⟩ : ByteArray) = u := ⟨_, rfl⟩
 rw [hu2] at p10
 rw [hv2] at p11
 obtain ⟨u3, hu3⟩ : ∃ u, (⟨#[keys8[3]]⟩ : ByteArray) = u := ⟨_, rfl⟩
 obtain ⟨v3, hv3⟩ : ∃ u, (⟨(escByte keys8[3]).toArray⟩ : ByteArray) = u := ⟨_, rfl⟩
 rw [hu3] at p8
 rw [hv3] at p9
 obtain ⟨u4, hu4⟩ : ∃ u, (⟨#[keys8[4]]⟩ : ByteArray) = u := ⟨_, rfl⟩
 obtain ⟨v4, hv4⟩ : ∃ u, (⟨(escByte keys8[4]).toArray⟩ : ByteArray) = u := ⟨_, rfl⟩
 rw [hu4] at p6
 rw [hv4] at p7
 obtain ⟨u5, hu5⟩ : ∃ u, (⟨#[keys8[5]]⟩ : ByteArray) = u := ⟨_, rfl⟩
 obtain ⟨v5, hv5⟩ : ∃ u, (⟨(escByte keys8[5]).toArray⟩ : ByteArray) = u := ⟨_, rfl⟩
 rw [hu5] at p4
 rw [hv5] at p5
 obtain ⟨u6, hu6⟩ : ∃ u, (⟨#[keys8[6]]⟩ : ByteArray) = u := ⟨_, rfl⟩
 obtain ⟨v6, hv6⟩ : ∃ u, (⟨(escByte keys8[6]).toArray⟩ : ByteArray) = u := ⟨_, rfl⟩
 rw [hu6] at p2
 rw [hv6] at p3
 obtain ⟨u7, hu7⟩ : ∃ u, (⟨#[keys8[7]]⟩ : ByteArray) = u := ⟨_, rfl⟩
 obtain ⟨v7, hv7⟩ : ∃ u, (⟨(escByte keys8[7]).toArray⟩ : ByteArray) = u := ⟨_, rfl⟩
 rw [hu7] at p0
 rw [hv7] at p1
 have Hu0 := Lib.hid hu0
 have Hv0 := Lib.hid hv0
 have Hu1 := Lib.hid hu1
 have Hv1 := Lib.hid hv1
 have Hu2 := Lib.hid hu2
 have Hv2 := Lib.hid hv2
 have Hu3 := Lib.hid hu3
 have Hv3 := Lib.hid hv3
 have Hu4 := Lib.hid hu4
 have Hv4 := Lib.hid hv4
 have Hu5 := Lib.hid hu5
 have Hv5 := Lib.hid hv5
 have Hu6 := Lib.hid hu6
 have Hv6 := Lib.hid hv6
 have Hu7 := Lib.hid hu7
 have Hv7 := Lib.hid hv7
 clear hu0 hv0 hu1 hv1 hu2 hv2 hu3 hv3 hu4 hv4 hu5 hv5 hu6 hv6 hu7 hv7 hA
 go_enter Tryz.func72, Tryz.ntmps72
 go_wp2_with fail
 go_ret
 generalize (Question.appendCap 16 0 9).cut (w.tape w.drawn (Question.appendCap 16 0 9)) = cp
 obtain ⟨zz, hzz⟩ : ∃ zz, Builtin.zeroCells #[Value.string { data := #[] }] (cp - 16) = zz := ⟨_, rfl⟩
 rw [hzz]
 generalize hW1 : w.alloc (.cells (#[.string u7, .string v7, .string u6, .string v6, .string u5, .string v5, .string u4, .string v4, .string u3, .string v3, .string u2, .string v2, .string u1, .string v1, .string u0, .string v0] ++ zz) 9) = w1
 have r1 : w1.heap[w.heap.size]? = some (.cells (#[.string u7, .string v7, .string u6, .string v6, .string u5, .string v5, .string u4, .string v4, .string u3, .string v3, .string u2, .string v2, .string u1, .string v1, .string u0, .string v0] ++ zz) 9 (0, 0)) := by rw [← hW1]; exact (Go.MapKept.heap_alloc w _).1
 have hs1 : w1.heap.size = w.heap.size + 1 := by rw [← hW1]; simp
 have b1 : Below w.heap.size w w1 := by rw [← hW1]; exact (Below.refl _ _).alloc (Nat.le_refl _) _
 have b2 : Below w1.heap.size w1 (w1.alloc (.cells #[.int .u32 0, .int .i32 0, .int .u32 0, .nilIface, .slice (some ⟨w.heap.size, 0, none⟩) 16 cp] 160)) := (Below.refl _ _).alloc (Nat.le_refl _) _
 refine ⟨w.heap.size + 1, w.heap.size, cp, rfl, ?_, args_of_row ((b2.block _ (by omega)).trans r1) Hu0.out Hv0.out Hu1.out Hv1.out Hu2.out Hv2.out Hu3.out Hv3.out Hu4.out Hv4.out Hu5.out Hv5.out Hu6.out Hv6.out Hu7.out Hv7.out, by omega, by omega, ?_⟩
 ·
  have := (Go.MapKept.heap_alloc w1 (.cells #[.int .u32 0, .int .i32 0, .int .u32 0, .nilIface, .slice (some ⟨w.heap.size, 0, none⟩) 16 cp] 160)).1
  rw [hs1] at this
  exact this
 ·
  exact (b1.trans (b2.mono (by omega))).trans ⟨rfl, rfl, rfl, Nat.le_refl _, fun _ _ => rfl⟩
theorem text_Escape.calls (a0 : ByteArray) (r : ByteArray) (w : World) (h : text_Escape.f a0 = some r) (hG : Glob w) :
  Calls Tryz.prog 31 #[.string a0] w fun e w' => e = .returned (.string r) ∧ Below w.heap.size w w' := by
 have hs : a0.size * 6 ≤ 140737488355328 := by
  unfold text_Escape.f at h
  split at h
  ·
   assumption
  ·
   cases h
 have hr : (⟨(escL a0.data.toList).toArray⟩ : ByteArray) = r := by
  unfold text_Escape.f at h
  rw [if_pos hs] at h
  exact Option.some.inj h
 have Hs := Lib.hid hs
 have Hr := Lib.hid hr
 clear h hG hs hr
 go_enter Tryz.func31, Tryz.ntmps31
 go_wp2_with fail
 have r0 : (w.alloc (.cells (#[.string ⟨#[38]⟩, .string ⟨#[38, 97, 109, 112, 59]⟩, .string ⟨#[60]⟩, .string ⟨#[38, 108, 116, 59]⟩, .string ⟨#[62]⟩, .string ⟨#[38, 103, 116, 59]⟩, .string ⟨#[34]⟩, .string ⟨#[38, 113, 117, 111, 116, 59]⟩, .string ⟨#[39]⟩, .string ⟨#[38, 97, 112, 111, 115, 59]⟩, .string ⟨#[9]⟩, .string ⟨#[38, 35, 120, 57, 59]⟩, .string ⟨#[10]⟩, .string ⟨#[38, 35, 120, 65, 59]⟩, .string ⟨#[13]⟩, .string ⟨#[38, 35, 120, 68, 59]⟩]) 9)).heap[w.heap.size]? = some (.cells (#[.string ⟨#[38]⟩, .string ⟨#[38, 97, 109, 112, 59]⟩, .string ⟨#[60]⟩, .string ⟨#[38, 108, 116, 59]⟩, .string ⟨#[62]⟩, .string ⟨#[38, 103, 116, 59]⟩, .string ⟨#[34]⟩, .string ⟨#[38, 113, 117, 111, 116, 59]⟩, .string ⟨#[39]⟩, .string ⟨#[38, 97, 112, 111, 115, 59]⟩, .string ⟨#[9]⟩, .string ⟨#[38, 35, 120, 57, 59]⟩, .string ⟨#[10]⟩, .string ⟨#[38, 35, 120, 65, 59]⟩, .string ⟨#[13]⟩, .string ⟨#[38, 35, 120, 68, 59]⟩] ++ #[]) 9 (0, 0)) := by
  rw [Array.append_empty]
  exact (Go.MapKept.heap_alloc w _).1
 have b0 : Below w.heap.size w (w.alloc (.cells (#[.string ⟨#[38]⟩, .string ⟨#[38, 97, 109, 112, 59]⟩, .string ⟨#[60]⟩, .string ⟨#[38, 108, 116, 59]⟩, .string ⟨#[62]⟩, .string ⟨#[38, 103, 116, 59]⟩, .string ⟨#[34]⟩, .string ⟨#[38, 113, 117, 111, 116, 59]⟩, .string ⟨#[39]⟩, .string ⟨#[38, 97, 112, 111, 115, 59]⟩, .string ⟨#[9]⟩, .string ⟨#[38, 35, 120, 57, 59]⟩, .string ⟨#[10]⟩, .string ⟨#[38, 35, 120, 65, 59]⟩, .string ⟨#[13]⟩, .string ⟨#[38, 35, 120, 68, 59]⟩]) 9)) := (Below.refl _ _).alloc (Nat.le_refl _) _
 have hsz : (w.alloc (.cells (#[.string ⟨#[38]⟩, .string ⟨#[38, 97, 109, 112, 59]⟩, .string ⟨#[60]⟩, .string ⟨#[38, 108, 116, 59]⟩, .string ⟨#[62]⟩, .string ⟨#[38, 103, 116, 59]⟩, .string ⟨#[34]⟩, .string ⟨#[38, 113, 117, 111, 116, 59]⟩, .string ⟨#[39]⟩, .string ⟨#[38, 97, 112, 111, 115, 59]⟩, .string ⟨#[9]⟩, .string ⟨#[38, 35, 120, 57, 59]⟩, .string ⟨#[10]⟩, .string ⟨#[38, 35, 120, 65, 59]⟩, .string ⟨#[13]⟩, .string ⟨#[38, 35, 120, 68, 59]⟩]) 9)).heap.size = w.heap.size + 1 := by simp
 refine (newReplacer_any w.heap.size 16 _ (args_of_row r0 rfl rfl rfl rfl rfl rfl rfl rfl rfl rfl rfl rfl rfl rfl rfl rfl)).mono ?_
 rintro e w1 ⟨B, g, cap, rfl, hB, hA, hgB, hBw, hb1⟩
 rw [hsz] at hBw
 have hbb := b0.trans (hb1.mono (by rw [hsz]; omega))
 clear r0 b0 hb1 hsz
 have Hbb := Lib.hid hbb
 clear hbb
 go_wp2_with fail
 refine (replacer_Replace B g cap a0 w1 hB hA hgB Hs.out).mono ?_
 rintro e w2 ⟨rfl, hb2⟩
 go_wp2_with fail
 go_ret
 exact ⟨by rw [← Hr.out]; rfl, Hbb.out.trans (hb2.mono (by omega))⟩
end Go.Proofs.YtknfpggiigncpaaGreatDoor.P
