/- Plain: the trees of elements within one another, and side by side. -/
import Derived.Test.YtknfpggiigncpaaGreatDoorTr6
import Derived.Test.YtknfpggiigncpaaGreatDoorTp3
import Derived.Test.YtknfpggiigncpaaGreatDoorPw1
set_option maxHeartbeats 8000000
set_option maxRecDepth 100000
set_option linter.unusedVariables false
set_option linter.unusedSimpArgs false
section
namespace Go.Proofs.YtknfpggiigncpaaGreatDoor.T
open Go.RowKit P E YtknfpggiigncpaaGreatDoorW.PrintLast YtknfpggiigncpaaGreatDoorW.PrintMore
open YtknfpggiigncpaaGreatDoorW.PrintWords
theorem Fits.saids {i : Nat} {S : Bst} (h : Fits i S) (hi : i ≤ 1048576) : ∀ nd ∈ S.stack, nd.said.size ≤ 17592186044416 := by
 intro nd hnd
 have := h.said nd hnd
 have := tokM_mono hi
 have e : tokM 1048576 = 4398046511104 := by decide
 omega
theorem Fits.kss {i : Nat} {S : Bst} (h : Fits i S) : ∀ nd ∈ S.stack, nd.ks.length ≤ 20000 := by
 intro nd hnd
 have := wsum_mem hnd
 have := h.sum
 have := h.many
 omega
theorem Fits.sp0 {i : Nat} {S : Bst} (h : Fits i S) : (sp0T S).length ≤ 90000 := by
 unfold sp0T
 cases hl : S.stack.getLast? with
 | none => exact Nat.zero_le _
 | some up =>
  obtain ⟨m, e⟩ := last_split hl
  have := h.sps m.length up (by rw [e, List.getElem?_append_right (Nat.le_refl _)]; simp)
  have hd := h.deep
  rw [e] at hd
  simp at hd
  simp only
  omega
theorem take_any (w0 wf w : World) (b : Nat) (lab : Nat → Nat) (S : Bst) (gs : List Nat) (sv rv : Value) (t : C.S44) (A3 : Option Addr) (c3 : Nat) (i : Nat) (h : Rep w w0.heap.size b lab S gs sv rv) (hT : C.k77.C w0 A3 t.f3.length t.f3) (hok : TokOk t) (hf : Fits i S) (hi : i ≤ 1048576) (hG0 : Glob w0) (hB0 : Bl w0 wf w) :
  Calls Tryz.prog 75 #[.pointer (some ⟨b, 0, none⟩), .agg #[.int .u8 t.f0, .string t.f1, .string t.f2, .slice A3 t.f3.length c3, .bool t.f4, .int .i64 t.f5]] w fun e w' => e = .returned (.int .i64 (tokT S t).2) ∧ Bl w0 wf w' ∧ ((tokT S t).2 = 0 → ∃ lab' gs' sv' rv', Rep w' w0.heap.size b lab' (tokT S t).1 gs' sv' rv') := by
 have hba := below_alloc (Below.refl w.heap.size w) (.cells #[.int .u8 t.f0, .string t.f1, .string t.f2, .slice A3 t.f3.length c3, .bool t.f4, .int .i64 t.f5] 44)
 have HR := Lib.hid (h.below hba)
 have HB := Lib.hid (hB0.step hba)
 have HT := Lib.hid hT
 have HG0 := Lib.hid hG0
 have HF := Lib.hid hf
 have HO := Lib.hid hok
 have hgl : gs.length ≤ 64 := by rw [h.len]; exact hf.deep
 clear hba h hB0 hT hG0 hf hok
 obtain ⟨R, hR⟩ : ∃ R, tokT S t = R := ⟨_, rfl⟩
 rw [hR]
 unfold tokT at hR
 by_cases k1 : t.f0 = 1
 ·
  rw [if_pos k1] at hR
  have g1 : (t.f0 == 1) = true := by rw [k1]; rfl
  have HRR := Lib.hid hR
  clear hR k1
  go_enter Tryz.func75, Tryz.ntmps75
  go_wp2_with fail
  refine (open_any w0 wf _ b lab S gs sv rv t A3 c3 HR.out HT.out HO.out.name HO.out.atts (by have := HO.out.many; omega) (fun nd hnd => ⟨HF.out.kss nd hnd, HF.out.saids hi nd hnd⟩) hgl HF.out.many HF.out.sp0 HG0.out HB.out).mono ?_
  rintro e w1 ⟨rfl, hb1, hp1⟩
  rw [HRR.out] at hp1 ⊢
  have HP := Lib.hid hp1
  clear hp1
  dsimp only
  go_wp2_with fail
  go_ret
  exact ⟨rfl, hb1, HP.out⟩
 ·
  rw [if_neg k1] at hR
  have g1 : (t.f0 == 1) = false := by simpa using k1
  clear k1
  by_cases k2 : t.f0 = 2
  ·
   rw [if_pos k2] at hR
   have g2 : (t.f0 == 2) = true := by rw [k2]; rfl
   have HRR := Lib.hid hR
   clear hR k2
   go_enter Tryz.func75, Tryz.ntmps75
   go_wp2_with fail
   refine (close_any w0 wf _ b lab S gs sv rv t.f1 HR.out (fun nd hnd => HF.out.kss nd hnd) hgl HG0.out HB.out).mono ?_
   rintro e w1 ⟨rfl, hb1, hp1⟩
   rw [HRR.out] at hp1 ⊢
   have HP := Lib.hid hp1
   clear hp1
   dsimp only
   go_wp2_with fail
   go_ret
   exact ⟨rfl, hb1, HP.out⟩
  ·
   rw [if_neg k2] at hR
   have g2 : (t.f0 == 2) = false := by simpa using k2
   have HRR := Lib.hid hR
   clear hR k2
   go_enter Tryz.func75, Tryz.ntmps75
   go_wp2_with fail
   refine (say_any w0 wf _ b lab S gs sv rv t.f2 HR.out HO.out.text (fun nd hnd => HF.out.saids hi nd hnd) hgl HG0.out HB.out).mono ?_
   rintro e w1 ⟨rfl, hb1, hp1⟩
   rw [HRR.out] at hp1 ⊢
   have HP := Lib.hid hp1
   clear hp1
   dsimp only
   go_wp2_with fail
   go_ret
   exact ⟨rfl, hb1, fun _ => ⟨_, _, _, _, HP.out⟩⟩
def parseT (s : ByteArray) : Got := if (C.tokR s).2.2 ≠ 0 then badG (C.tokR s).2.1 (C.tokR s).2.2 else finT s.size (runT bst0 (C.tokR s).1)
def TreePost (w : World) (r : Got) (e : Ending) (w' : World) : Prop :=
 ∃ A c, e = .returned (.tuple #[.string r.space, .agg #[.string r.root.f0, .string r.root.f1, .slice A r.root.f2.length c], .int .i64 r.at_, .int .i64 r.err]) ∧ r.root.f2.length ≤ c ∧ k24.C w' A r.root.f2.length r.root.f2 ∧ Below w.heap.size w w'
theorem results36 {g : Nat} {x0 x1 x2 sp at_ er : Value} {W : World} (h : W.heap[g]? = some (.cells #[x0, x1, x2] 24 (0, 0))) (tmps : Array Value) (h2 : tmps.getD 2 undef = sp) (h3 : tmps.getD 3 undef = .pointer (some ⟨g, 0, none⟩)) (h4 : tmps.getD 4 undef = at_) (h5 : tmps.getD 5 undef = er) :
  (results Tryz.f36 tmps).run Tryz.prog W = .ok (.tuple #[sp, .agg #[x0, x1, x2], at_, er]) W := by
 have k0 := crow 0 x0 h
 have k1 := crow 1 x1 h
 have k2 := crow 2 x2 h
 rw [Array.getD_eq_getD_getElem?] at h2 h3 h4 h5
 simp [results, Tryz.results36, go_sem, h2, h3, h4, h5, k0, k1, k2]
theorem C_nil0 (W : World) : k24.C W none 0 [] := (Kd.R_reads' (Kd.R_nil k24 24 W 0 (fun _ => True))).2.2
theorem set3 {W : World} {g : Nat} {x0 x1 x2 : Value} (h : W.heap[g]? = some (.cells #[x0, x1, x2] 24 (0, 0))) (a b c : Value) : (((W.setCell ⟨g, 0, none⟩ a).setCell ⟨g, 1, none⟩ b).setCell ⟨g, 2, none⟩ c).heap[g]? = some (.cells #[a, b, c] 24 (0, 0)) := by
 rw [blk_set (blk_set (blk_set h 0 a) 1 b) 2 c]
 rfl
theorem set3d {W : World} {g : Nat} {x0 x1 x2 : Value} (h : W.heap[g]? = some (.cells #[x0, x1, x2] 24 (0, 0))) (a b c : Value) : (((W.setCell ⟨g, 0, none⟩ a).setCell ⟨g, 1, none⟩ b).setCell ⟨g, 2, none⟩ c).drew.heap[g]? = some (.cells #[a, b, c] 24 (0, 0)) := set3 h a b c
theorem below_set3 {W w : World} {n g : Nat} (h : Below n w W) (hg : n ≤ g) (a b c : Value) : Below n w (((W.setCell ⟨g, 0, none⟩ a).setCell ⟨g, 1, none⟩ b).setCell ⟨g, 2, none⟩ c) := ((h.setCell (p := ⟨g, 0, none⟩) hg a).setCell (p := ⟨g, 1, none⟩) hg b).setCell (p := ⟨g, 2, none⟩) hg c
theorem TreePost.bad {w w' : World} {a e : Int} (h : Below w.heap.size w w') : TreePost w (badG a e) (.returned (.tuple #[.string ⟨#[]⟩, .agg #[.string ⟨#[]⟩, .string ⟨#[]⟩, .slice none 0 0], .int .i64 a, .int .i64 e])) w' :=
 ⟨none, 0, rfl, Nat.le_refl _, C_nil0 _, h⟩
theorem Rep.start (w : World) (lab : Nat → Nat) : Rep (w.alloc (.cells #[.slice none 0 0, .string ⟨#[]⟩, .string ⟨#[]⟩, .slice none 0 0, .string ⟨#[]⟩, .bool false, .int .i64 0] 113)) w.heap.size w.heap.size lab bst0 [] (.slice none 0 0) (.slice none 0 0) :=
 ⟨Nat.le_refl _, (MapKept.heap_alloc w _).1, ⟨rfl, .inl ⟨rfl, rfl⟩⟩, rfl, List.nodup_nil, fun i g nd h => by simp at h, Kd.R_nil _ _ _ _ _⟩
theorem parse_any (s : ByteArray) (w : World) (hs : s.size ≤ 140737488355328) (hG : Glob w) : Calls Tryz.prog 36 #[.string s] w (TreePost w (parseT s)) := by
 have hf : C.token_Tokens.f s = some ((C.tokR s).1, (C.tokR s).2.1, (C.tokR s).2.2) := by
  unfold C.token_Tokens.f
  rw [if_pos hs]
 have hok := tokR_oks s
 obtain ⟨R, hR⟩ : ∃ R, parseT s = R := ⟨_, rfl⟩
 rw [hR]
 unfold parseT at hR
 generalize C.tokR s = X at hf hok hR
 obtain ⟨l, ta, te⟩ := X
 simp only at hf hok hR
 obtain ⟨hl, hok⟩ := hok
 have HOK := Lib.hid hok
 have HF := Lib.hid hf
 have HRR := Lib.hid hR
 have HG := Lib.hid hG
 have hba := below_alloc (Below.refl w.heap.size w) (.cells #[.string ⟨#[]⟩, .string ⟨#[]⟩, .slice none 0 0] 24)
 have hg0 := (MapKept.heap_alloc w (.cells #[.string ⟨#[]⟩, .string ⟨#[]⟩, .slice none 0 0] 24)).1
 have HBA := Lib.hid hba
 clear hf hok hR hG hba
 go_enter Tryz.func36, Tryz.ntmps36
 go_wp2_with fail
 refine (C.token_Tokens.calls s _ _ _ _ HF.out (HG.out.below HBA.out)).mono ?_
 rintro e w1 ⟨v1, rfl, hS1, hb1⟩
 obtain ⟨A1, c1, rfl, hc1, hC1⟩ := Kd.S_reads hS1
 have HC1 := Lib.hid hC1
 have HB1 := Lib.hid (HBA.out.trans (hb1.mono HBA.out.size))
 have hg1 := (hb1.block w.heap.size (by simp)).trans hg0
 have hgw : w.heap.size < w1.heap.size := (Array.getElem?_eq_some_iff.1 hg1).1
 clear hS1 hC1 hb1 hg0
 by_cases hte : te ≠ 0
 ·
  obtain rfl : R = badG ta te := by rw [← HRR.out]; exact if_pos hte
  have g1 : (te != 0) = true := by simpa using hte
  have g2 : (te == 0) = false := by simpa using hte
  clear hte
  have y0 := crow 0 (Value.string ⟨#[]⟩) hg1
  have f0 := frozen_of_row _ _ 0 _ _ hg1
  have y1 := crow 1 (Value.string ⟨#[]⟩) hg1
  have f1 := frozen_of_row _ _ 1 _ _ hg1
  have y2 := crow 2 (Value.slice none 0 0) hg1
  have f2 := frozen_of_row _ _ 2 _ _ hg1
  dsimp only
  go_wp2_with fail
  refine bodyPost_ret (results36 (set3 hg1 _ _ _) _ rfl rfl rfl rfl) rfl ?_
  exact TreePost.bad (below_set3 HB1.out (Nat.le_refl _) _ _ _)
 ·
  obtain rfl : te = 0 := Classical.byContradiction hte
  have hRR := HRR.out
  rw [if_neg (by simp)] at hRR
  have HRR2 := Lib.hid hRR
  clear hRR HRR hte
  have HR2 := Lib.hid (Rep.start w1 (fun _ => 0))
  have HBB := Lib.hid (below_alloc (Below.refl w1.heap.size w1) (.cells #[.slice none 0 0, .string ⟨#[]⟩, .string ⟨#[]⟩, .slice none 0 0, .string ⟨#[]⟩, .bool false, .int .i64 0] 113))
  obtain ⟨gr, hgr⟩ : ∃ g, w.heap.size = g := ⟨_, rfl⟩
  have HGR := Lib.hid hgr
  rw [hgr] at hgw hg1
  dsimp only
  go_wp2_with fail
  rw [hgr]
  clear hgr
  go_loopg [28] (l.length + 1) (fun kq v28 wr => ∃ (i : Nat) (S : Bst) (lab : Nat → Nat) (gs : List Nat) (sv rv : Value), v28 = .int .i64 i ∧ i ≤ l.length ∧ Aside0 (kq + i = l.length + 1) ∧ Aside0 (Rep wr w1.heap.size w1.heap.size lab S gs sv rv) ∧ Aside0 (Fits i S) ∧ Aside0 (runT S (l.drop i) = runT bst0 l) ∧ Aside0 (Below w1.heap.size w1 wr))
  case atStart => exact ⟨0, bst0, _, _, _, _, rfl, Nat.zero_le _, ⟨rfl⟩, ⟨HR2.out⟩, ⟨Fits.start⟩, ⟨rfl⟩, ⟨HBB.out⟩⟩
  case round =>
   obtain ⟨i, S, lab, gs, sv, rv, rfl, hi, HK, HR, HFT, HRN, HBr⟩ := hrel
   clear HR2 HBB
   by_cases h : i < l.length
   ·
    obtain ⟨ad, A3, c3, e, hx0, hx1, hx2, hx3, hx4, hx5, hl3, hi3⟩ := C.at_T44 HC1.out (i : Int) (by omega) (by omega)
    cases e
    simp only [Int.toNat_natCast] at hx0 hx1 hx2 hx3 hx4 hx5
    have hae : l.drop i = C.rd_T44 l (i : Int) :: l.drop (i + 1) := by
     rw [List.drop_eq_getElem_cons h]
     unfold C.rd_T44
     rw [Int.toNat_natCast, List.getD_eq_getElem?_getD, List.getElem?_eq_getElem h]
     rfl
    have hmem : C.rd_T44 l (i : Int) ∈ l := List.mem_of_mem_drop (by rw [hae]; exact List.mem_cons_self ..)
    have HTK := Lib.hid (HOK.out _ hmem)
    have hrn := HRN.out
    rw [hae, runT] at hrn
    have HRN2 := Lib.hid hrn
    clear hmem hae HRN hrn
    generalize C.rd_T44 l (i : Int) = x at *
    replace hx0 := (HBr.out.cell (World.block_lt_of_cell? w1 _ hx0)).trans hx0
    replace hx1 := (HBr.out.cell (World.block_lt_of_cell? w1 _ hx1)).trans hx1
    replace hx2 := (HBr.out.cell (World.block_lt_of_cell? w1 _ hx2)).trans hx2
    replace hx3 := (HBr.out.cell (World.block_lt_of_cell? w1 _ hx3)).trans hx3
    replace hx4 := (HBr.out.cell (World.block_lt_of_cell? w1 _ hx4)).trans hx4
    replace hx5 := (HBr.out.cell (World.block_lt_of_cell? w1 _ hx5)).trans hx5
    have HI3 := Lib.hid hi3
    clear hi3
    have hba := below_alloc (Below.refl wr.heap.size wr) (.cells #[.int .u8 x.f0, .string x.f1, .string x.f2, .slice A3 x.f3.length c3, .bool x.f4, .int .i64 x.f5] 44)
    have HRa := Lib.hid (HR.out.below hba)
    have HBa := Lib.hid (HBr.out.trans (hba.mono HBr.out.size))
    have ha0 := (MapKept.heap_alloc wr (.cells #[.int .u8 x.f0, .string x.f1, .string x.f2, .slice A3 x.f3.length c3, .bool x.f4, .int .i64 x.f5] 44)).1
    have HA0 := Lib.hid ha0
    clear hba ha0
    go_wp2_with fail
    refine (take_any w1 _ _ w1.heap.size lab S gs sv rv x A3 c3 i HRa.out HI3.out HTK.out HFT.out (by omega) (HG.out.below HB1.out) ⟨HBa.out, fun _ _ h => h⟩).mono ?_
    rintro e w4 ⟨rfl, hb4, hp4⟩
    have HK4 := Lib.hid hb4.2
    have HB4 := Lib.hid hb4.1
    have HP4 := Lib.hid hp4
    have hg4 := (HB4.out.block gr hgw).trans hg1
    clear hb4 hp4 HRa HBa hx0 hx1 hx2 hx3 hx4 hx5
    by_cases h0 : (tokT S x).2 = 0
    ·
     have HN0 := Lib.hid h0
     have hrn := HRN2.out
     rw [if_pos h0] at hrn
     have HRN3 := Lib.hid hrn
     clear hrn HRN2
     rw [h0]
     clear h0
     obtain ⟨lab4, gs4, sv4, rv4, hR4⟩ := HP4.out HN0.out
     have HR4 := Lib.hid hR4
     clear hR4 HP4
     dsimp only
     go_wp2_with fail
     go_roundg (l.length - i)
     case measure => have := HK.out; omega
     case rel => exact ⟨i + 1, (tokT S x).1, lab4, gs4, sv4, rv4, by go_num, by omega, ⟨by omega⟩, ⟨HR4.out⟩, ⟨HFT.out.take HTK.out HN0.out⟩, ⟨HRN3.out⟩, ⟨HB4.out⟩⟩
    ·
     have hrn := HRN2.out
     rw [if_neg h0] at hrn
     obtain ⟨er, her⟩ : ∃ er, (tokT S x).2 = er := ⟨_, rfl⟩
     rw [her] at h0 hrn ⊢
     obtain rfl : R = badG x.f5 er := by rw [← HRR2.out, ← hrn]; rfl
     have g1 : (er != 0) = true := by simpa using h0
     have g2 : (er == 0) = false := by simpa using h0
     clear h0 her hrn HRN2 HP4
     have hxa := HK4.out _ _ HA0.out
     have xa5 := crow 5 (Value.int .i64 x.f5) hxa
     have y0 := crow 0 (Value.string ⟨#[]⟩) hg4
     have f0 := frozen_of_row _ _ 0 _ _ hg4
     have y1 := crow 1 (Value.string ⟨#[]⟩) hg4
     have f1 := frozen_of_row _ _ 1 _ _ hg4
     have y2 := crow 2 (Value.slice none 0 0) hg4
     have f2 := frozen_of_row _ _ 2 _ _ hg4
     have hne : wr.heap.size ≠ gr := by have := HBr.out.size; omega
     dsimp only
     go_wp2_with fail
     go_region
     go_wp2_with fail
     refine bodyPost_ret (results36 (set3d hg4 _ _ _) _ rfl rfl rfl rfl) rfl ?_
     have hgw2 : w.heap.size ≤ gr := by have := HGR.out; omega
     exact TreePost.bad (below_drew (below_set3 (HB1.out.trans (HB4.out.mono HB1.out.size)) hgw2 _ _ _))
   ·
    obtain rfl : i = l.length := by omega
    have hrn := HRN.out
    rw [List.drop_length, runT] at hrn
    have HRN2 := Lib.hid hrn
    clear hrn HRN
    have hg4 := (HBr.out.block gr hgw).trans hg1
    have y0 := crow 0 (Value.string ⟨#[]⟩) hg4
    have f0 := frozen_of_row _ _ 0 _ _ hg4
    have y1 := crow 1 (Value.string ⟨#[]⟩) hg4
    have f1 := frozen_of_row _ _ 1 _ _ hg4
    have y2 := crow 2 (Value.slice none 0 0) hg4
    have f2 := frozen_of_row _ _ 2 _ _ hg4
    have y5 := crow 5 (Value.bool S.done) HR.out.box
    cases hdn : S.done with
    | false =>
     rw [hdn] at y5
     obtain rfl : R = badG s.size 23 := by rw [← HRR2.out, ← HRN2.out]; show (if S.done = true then _ else _) = _; rw [if_neg (by rw [hdn]; decide)]
     have HDN := Lib.hid hdn
     clear hdn
     go_wp2_with fail
     refine bodyPost_ret (results36 (set3 hg4 _ _ _) _ rfl rfl rfl rfl) rfl ?_
     have hgw : w.heap.size ≤ gr := by have := HGR.out; omega
     exact TreePost.bad (below_set3 (HB1.out.trans (HBr.out.mono HB1.out.size)) hgw _ _ _)
    | true =>
     rw [hdn] at y5
     obtain rfl : R = ⟨S.space, S.root, s.size, 0⟩ := by rw [← HRR2.out, ← HRN2.out]; show (if S.done = true then _ else _) = _; rw [if_pos hdn]
     have HDN := Lib.hid hdn
     clear hdn
     obtain ⟨A5, c5, rfl, l5, hC5⟩ := Kd.R_reads HR.out.root
     have q1 := crow 1 (Value.string S.root.f0) HR.out.box
     have q2 := crow 2 (Value.string S.root.f1) HR.out.box
     have q3 := crow 3 (Value.slice A5 S.root.f2.length c5) HR.out.box
     have q4 := crow 4 (Value.string S.space) HR.out.box
     go_wp2_with fail
     go_region
     go_wp2_with fail
     refine bodyPost_ret (results36 (set3d hg4 _ _ _) _ rfl rfl rfl rfl) rfl ?_
     have hgw2 : w.heap.size ≤ gr := by have := HGR.out; omega
     refine ⟨A5, c5, rfl, l5, ?_, below_drew (below_set3 (HB1.out.trans (HBr.out.mono HB1.out.size)) hgw2 _ _ _)⟩
     exact (Kd.R_reads' (Kd.R_drew (Kd.R_far (Kd.R_far (Kd.R_far (Kd.R_bound HR.out.root) (p := ⟨gr, 0, none⟩) (fun k hk => by have := hk.2.1; show k ≠ gr; omega) _) (p := ⟨gr, 1, none⟩) (fun k hk => by have := hk.2.1; show k ≠ gr; omega) _) (p := ⟨gr, 2, none⟩) (fun k hk => by have := hk.2.1; show k ≠ gr; omega) _))).2.2
end Go.Proofs.YtknfpggiigncpaaGreatDoor.T
end
section
namespace Go.Proofs.YtknfpggiigncpaaGreatDoor.T
open Go.RowKit P E
def runE : Bst → List C.S44 → Except Int Bst
 | S, [] => .ok S
 | S, t :: l => if (tokT S t).2 = 0 then runE (tokT S t).1 l else .error (tokT S t).2
theorem tokT_zp (S : Bst) (t : C.S44) : tokT S (C.zp t) = tokT S t := rfl
theorem runE_of : ∀ (l : List C.S44) (S : Bst), (∃ S', runT S l = .ok S' ∧ runE S (l.map C.zp) = .ok S') ∨ (∃ a e, runT S l = .error (a, e) ∧ runE S (l.map C.zp) = .error e)
 | [], S => .inl ⟨S, rfl, rfl⟩
 | t :: l, S => by
  rw [List.map_cons, runT, runE, tokT_zp]
  by_cases h : (tokT S t).2 = 0
  ·
   rw [if_pos h, if_pos h]
   exact runE_of l _
  ·
   rw [if_neg h, if_neg h]
   exact .inr ⟨_, _, rfl, rfl⟩
theorem runE_app : ∀ (l m : List C.S44) (S S' : Bst), runE S l = .ok S' → runE S (l ++ m) = runE S' m
 | [], m, S, S', h => by injection h with h; subst h; rfl
 | t :: l, m, S, S', h => by
  rw [List.cons_append]
  rw [runE] at h ⊢
  by_cases h0 : (tokT S t).2 = 0
  ·
   rw [if_pos h0] at h ⊢
   exact runE_app l m _ _ h
  ·
   rw [if_neg h0] at h
   cases h
theorem parse_run {s : ByteArray} {m l : List C.S44} (h : C.tokR s = (m, (s.size : Int), 0)) (hm : m.map C.zp = l) :
  (∀ S, runE bst0 l = .ok S → parseT s = finT s.size (.ok S)) ∧ (∀ e, runE bst0 l = .error e → ∃ a, parseT s = badG a e) := by
 unfold parseT
 rw [h, if_neg (by simp)]
 rw [← hm]
 rcases runE_of m bst0 with ⟨S', h1, h2⟩ | ⟨a, e, h1, h2⟩
 ·
  rw [h1, h2]
  exact ⟨fun S hS => by injection hS with hS; subst hS; rfl, fun e he => by cases he⟩
 ·
  rw [h1, h2]
  exact ⟨fun S hS => (by cases hS), fun e' he => by injection he with he; subst he; exact ⟨a, rfl⟩⟩
/-! The texts. -/
theorem sz_list (s : ByteArray) : s.size = s.data.toList.length := by simp
end Go.Proofs.YtknfpggiigncpaaGreatDoor.T
end
