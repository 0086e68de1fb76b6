/- OutBack, walked by hand. -/
import Derived.Test.YtknfpggiigncpaaGreatDoorXReg
import Derived.Test.YtknfpggiigncpaaGreatDoorBk2
import Derived.Test.YtknfpggiigncpaaGreatDoorDt1
import Derived.Test.YtknfpggiigncpaaGreatDoorSm
set_option linter.unusedVariables false
set_option linter.unusedSimpArgs false
namespace Go.Proofs.YtknfpggiigncpaaGreatDoor.G
open Go.RowKit P E T YtknfpggiigncpaaGreatDoorW.PrintLast YtknfpggiigncpaaGreatDoorW.PrintMore
open YtknfpggiigncpaaGreatDoorW.PrintWords
theorem write_len (sp : ByteArray) (v : S24) (h : (writeT sp v).2 = 0) : (writeT sp v).1.size ≤ 1048576 := by
  unfold writeT at h ⊢
  split
  · decide
  · split
    · decide
    · rename_i h1 h2
      show (headL ++ elemL v (spaceL sp.data.toList)).length ≤ 1048576
      omega
theorem bax {a b : ByteArray} (h : a.data.toList = b.data.toList) : a = b := ByteArray.ext (Array.toList_inj.1 h)
def T2 (w0 : World) (g h : Nat) (v u : S24) (A B : Option Addr) (c d : Nat) (W : World) : Prop := T1 w0 g v A c W ∧ T1 w0 h u B d W
theorem T2.step {w0 : World} {g h : Nat} {v u : S24} {A B : Option Addr} {c d : Nat} {W W' : World} (t : T2 w0 g h v u A B c d W) (hb : Below W.heap.size W W') : T2 w0 g h v u A B c d W' := ⟨t.1.step hb, t.2.step hb⟩
theorem bp {W W' : World} (hB : Below W.heap.size W W') {b o : Nat} {x : Value} (h : W.cell? ⟨b, o, none⟩ = some x) (hl : b < W.heap.size) : W'.cell? ⟨b, o, none⟩ = some x := (hB.cell (p := ⟨b, o, none⟩) hl).trans h
theorem f_set {W : World} {b j k : Nat} {y : Value} {x : Option Obj} (hk : k ≠ b) (h : W.heap[k]? = x) : (W.setCell ⟨b, j, none⟩ y).heap[k]? = x := (Below.heap_setCell W ⟨b, j, none⟩ y k hk).trans h
theorem f_al {W : World} {o : Obj} {k : Nat} {x : Option Obj} (hk : k < W.heap.size) (h : W.heap[k]? = x) : (W.alloc o).heap[k]? = x := (Below.heap_alloc W o k hk).trans h
theorem f_dr {W : World} {k : Nat} {x : Option Obj} (h : W.heap[k]? = x) : W.drew.heap[k]? = x := h
theorem f_call {W W1 : World} {k : Nat} {x : Option Obj} (hb : Below W.heap.size W W1) (hk : k < W.heap.size) (h : W.heap[k]? = x) : W1.heap[k]? = x := (hb.block k hk).trans h
theorem f_new {W : World} {cs : Array Value} {k : Nat} (hk : W.heap.size = k) : (W.alloc (.cells cs 24)).heap[k]? = some (.cells cs 24 (0, 0)) := by
  subst hk
  exact cells_al W cs 24
theorem f_s3 {W : World} {g : Nat} (h : W.heap[g]? = some (.cells #[.string ⟨#[]⟩, .string ⟨#[]⟩, .slice none 0 0] 24 (0, 0))) (a b c : Value) : (((W.setCell ⟨g, 0, none⟩ a).setCell ⟨g, 1, none⟩ b).setCell ⟨g, 2, none⟩ c).heap[g]? = some (.cells #[a, b, c] 24 (0, 0)) := by
  rw [blk_set (blk_set (blk_set h 0 a) 1 b) 2 c]
  rfl
theorem leafT {w w2 W : World} {gv gu ga gb : Nat} {v u : S24} {A B A2 B2 : Option Addr} {c d c2 d2 : Nat} (hT : T2 w gv gu v u A B c d w2) (hB : Below w2.heap.size w2 W)
    (ha : W.heap[ga]? = some (.cells #[.string v.f0, .string v.f1, .slice A2 v.f2.length c2] 24 (0, 0))) (hb : W.heap[gb]? = some (.cells #[.string u.f0, .string u.f1, .slice B2 u.f2.length d2] 24 (0, 0))) (hCa : k24.C W A2 v.f2.length v.f2) (hCb : k24.C W B2 u.f2.length u.f2) :
    T2 w gv gu v u A B c d W ∧ T2 w ga gb v u A2 B2 c2 d2 W :=
  have h := hT.step hB
  ⟨h, ⟨h.1.1, ha, h.1.2.2.1, hCa⟩, ⟨h.1.1, hb, h.1.2.2.1, hCb⟩⟩
theorem bt {W W1 W2 : World} (h : Below W.heap.size W W1) (hb : Below W1.heap.size W1 W2) : Below W.heap.size W W2 := h.trans (hb.mono h.size)
theorem bc {W W1 : World} (hb : Below W.heap.size W W1) : (∀ b o, b < W.heap.size → W1.cell? ⟨b, o, none⟩ = W.cell? ⟨b, o, none⟩) ∧ (∀ b o, b < W.heap.size → W1.frozen? ⟨b, o, none⟩ = W.frozen? ⟨b, o, none⟩) :=
  ⟨fun b o h => hb.cell (p := ⟨b, o, none⟩) h, fun b o h => hb.frozen (p := ⟨b, o, none⟩) h⟩
theorem ga1 (W : World) (cs : Array Value) (t : TypeId) : ∀ b o, b < W.heap.size → (W.alloc (.cells cs t)).cell? ⟨b, o, none⟩ = W.cell? ⟨b, o, none⟩ := (bc (below_alloc (Below.refl _ _) _)).1
theorem ga2 (W : World) (cs : Array Value) (t : TypeId) : ∀ b o, b < W.heap.size → (W.alloc (.cells cs t)).frozen? ⟨b, o, none⟩ = W.frozen? ⟨b, o, none⟩ := (bc (below_alloc (Below.refl _ _) _)).2
set_option maxHeartbeats 8000000 in
set_option maxRecDepth 100000 in
theorem back_any (space other : ByteArray) (v u : S24) (A B : Option Addr) (c d : Nat) (w : World) (hr : k24.C w A v.f2.length v.f2) (hc : v.f2.length ≤ c) (hr' : k24.C w B u.f2.length u.f2) (hd : u.f2.length ≤ d) (hG : Glob w) (hfit : fitL [v, u]) :
    Calls Tryz.prog 12 #[.string space, .string other, .agg #[.string v.f0, .string v.f1, .slice A v.f2.length c], .agg #[.string u.f0, .string u.f1, .slice B u.f2.length d]] w fun e w' => e = .returned (.bool true) ∧ Below w.heap.size w w' := by
  have hu24 := Tryz.underlying24
  obtain ⟨gr, ⟨KG, hKG⟩, hgr⟩ := great_ev [v, u] hfit (by simp)
  have hb1 := below_alloc (below_alloc (below_alloc (Below.refl w.heap.size w) (.cells #[.string v.f0, .string v.f1, .slice A v.f2.length c] 24)) (.cells #[.string u.f0, .string u.f1, .slice B u.f2.length d] 24)) (.cells #[.string v.f0, .string v.f1, .slice A v.f2.length c, .string u.f0, .string u.f1, .slice B u.f2.length d] 24)
  have hT : T2 w w.heap.size (w.heap.size + 1) v u A B c d (((w.alloc (.cells #[.string v.f0, .string v.f1, .slice A v.f2.length c] 24)).alloc (.cells #[.string u.f0, .string u.f1, .slice B u.f2.length d] 24)).alloc (.cells #[.string v.f0, .string v.f1, .slice A v.f2.length c, .string u.f0, .string u.f1, .slice B u.f2.length d] 24)) :=
    ⟨⟨hb1, (Below.heap_alloc _ _ _ (by simp; omega)).trans ((Below.heap_alloc _ _ _ (by simp)).trans (cells_al _ _ _)), hG.below hb1, Kd.C_below hr hb1⟩, ⟨hb1, (Below.heap_alloc _ _ _ (by simp)).trans (by have := cells_al (w.alloc (.cells #[.string v.f0, .string v.f1, .slice A v.f2.length c] 24)) #[.string u.f0, .string u.f1, .slice B u.f2.length d] 24; rw [World.size_alloc] at this; exact this), hG.below hb1, Kd.C_below hr' hb1⟩⟩
  have hC1 : k24.C (((w.alloc (.cells #[.string v.f0, .string v.f1, .slice A v.f2.length c] 24)).alloc (.cells #[.string u.f0, .string u.f1, .slice B u.f2.length d] 24)).alloc (.cells #[.string v.f0, .string v.f1, .slice A v.f2.length c, .string u.f0, .string u.f1, .slice B u.f2.length d] 24)) (some ⟨w.heap.size + 1 + 1, 0, none⟩) 2 [v, u] :=
    row_pair _ _ 24 v u A B c d hc hT.1.2.2.2 hd hT.2.2.2.2 (by have := cells_al ((w.alloc (.cells #[.string v.f0, .string v.f1, .slice A v.f2.length c] 24)).alloc (.cells #[.string u.f0, .string u.f1, .slice B u.f2.length d] 24)) #[.string v.f0, .string v.f1, .slice A v.f2.length c, .string u.f0, .string u.f1, .slice B u.f2.length d] 24; rw [World.size_alloc, World.size_alloc] at this; exact this)
  have HT := Lib.hid hT
  have HC1 := Lib.hid hC1
  have HGR := Lib.hid hgr
  clear hr hr' hG hb1 hT hC1 hgr
  go_enter Tryz.func12, Tryz.ntmps12
  go_wp2_with fail
  refine (remitterlaw10_Great.calls KG (some ⟨w.heap.size + 1 + 1, 0, none⟩) 2 [v, u] gr _ HC1.out (Nat.le_refl _) (hKG KG (Nat.le_refl _))).mono ?_
  rintro e w2 ⟨rfl, hb2⟩
  have HT2 := Lib.hid (HT.out.step hb2)
  clear hb2 HT HC1
  generalize w.heap.size + 1 = gu at HT2 ⊢
  generalize hgw : w.heap.size = gv at HT2 ⊢
  clear hgw
  cases gr with
  | true =>
    go_wp2_with fail
    refine (wakes_any w2 HT2.out.1.2.2.1).mono ?_
    rintro e w3 ⟨rfl, hb3⟩
    have HT3 := Lib.hid (HT2.out.step hb3)
    clear hb3
    go_wp2_with fail
    go_ret
    exact ⟨rfl, HT3.out.1.1⟩
  | false =>
    obtain ⟨hcn, hsm⟩ := HGR.out rfl
    have q1 : (v.f0.size + v.f1.size < 2000 ∧ smallL v.f2 ∧ cntL v.f2 ≤ 1000) ∧ (u.f0.size + u.f1.size < 2000 ∧ smallL u.f2 ∧ cntL u.f2 ≤ 1000) := by
      obtain ⟨x, y, l⟩ := v
      obtain ⟨x', y', l'⟩ := u
      simp only [cntL] at hcn
      simp only [smallL] at hsm
      exact ⟨⟨hsm.1, hsm.2.1, by simp only; omega⟩, ⟨hsm.2.2.1, hsm.2.2.2.1, by simp only; omega⟩⟩
    have h1 := q1.1.1
    have h3 := q1.1.2.2
    have j1 := q1.2.1
    have j3 := q1.2.2.2
    have HSv := Lib.hid q1.1.2.1
    have HSu := Lib.hid q1.2.2.1
    clear q1 hsm hcn hKG HGR
    by_cases hsp : space.size ≤ 200
    · have hspd : decide ((200 : Int) < (space.size : Int)) = false := decide_eq_false (by omega)
      have hspe : decide (200 < space.size) = false := decide_eq_false (by omega)
      by_cases hot : other.size ≤ 200
      · have hotd : decide ((200 : Int) < (other.size : Int)) = false := decide_eq_false (by omega)
        have hote : decide (200 < other.size) = false := decide_eq_false (by omega)
        obtain ⟨KT, hKT⟩ := twin_ev v h3
        obtain ⟨KU, hKU⟩ := twin_ev u j3
        have aT := Lib.hid (hKT KT (Nat.le_refl _))
        have aU := Lib.hid (hKU KU (Nat.le_refl _))
        clear hKT hKU
        go_upto_region 3 with fail
        obtain ⟨c0, c1, c2⟩ := HT2.out.1.2.1.cells
        obtain ⟨d0, d1, d2⟩ := HT2.out.2.2.1.cells
        have L1 : gv < w2.heap.size := World.block_lt_of_cell? w2 _ c0
        have L2 : gu < w2.heap.size := World.block_lt_of_cell? w2 _ d0
        have G1 := ga1
        have G2 := ga2
        have N1 : ∀ n : Nat, n < n + 1 := fun n => Nat.lt_succ_self n
        have N2 : ∀ n : Nat, n < n + 1 + 1 := fun n => by omega
        go_cut [9, 10] (fun v9 v10 wc => ∃ (ga gb : Nat) (A2 B2 : Option Addr) (c2 d2 : Nat), v9 = .pointer (some ⟨ga, 0, none⟩) ∧ v10 = .pointer (some ⟨gb, 0, none⟩) ∧ Aside0 (v.f2.length ≤ c2 ∧ u.f2.length ≤ d2) ∧ Aside0 (T2 w gv gu v u A B c d wc ∧ T2 w ga gb v u A2 B2 c2 d2 wc))
        case first =>
         go_region_held3 (fun w' => w'.cell? ⟨gv, 0, none⟩ = some (.string v.f0) ∧ w'.cell? ⟨gv, 1, none⟩ = some (.string v.f1) ∧ w'.cell? ⟨gv, 2, none⟩ = some (.slice A v.f2.length c) ∧ w'.cell? ⟨gu, 0, none⟩ = some (.string u.f0) ∧ w'.cell? ⟨gu, 1, none⟩ = some (.string u.f1) ∧ w'.cell? ⟨gu, 2, none⟩ = some (.slice B u.f2.length d))
          (((try clear G1 G2 N1 N2); (try clear e3c e3f); (try clear e4c e4f); refine (fun (hB : Below w2.heap.size w2 _) => ⟨bp hB c0 L1, bp hB c1 L1, bp hB c2 L1, bp hB d0 L2, bp hB d1 L2, bp hB d2 L2⟩) ?_; repeat (first | (with_reducible refine Below.setCell ?_ ?_ _; rotate_left; (dsimp only; omega)) | with_reducible apply below_alloc | with_reducible apply pw_below_drewN | with_reducible apply below_drew1 | with_reducible refine bt ?_ hb4 | with_reducible refine bt ?_ hb3 | with_reducible exact Below.refl _ _)))
          ((first
            | ((with_reducible refine (remitterref10_Twin.calls KT v.f0 v.f1 A c v.f2 v.f0 v.f1 v.f2 _ ?c1 hc aT.out).mono ?_); (case c1 => exact Kd.C_below HT2.out.1.2.2.2 (by repeat (first | (with_reducible refine Below.setCell ?_ ?_ _; rotate_left; (dsimp only; omega)) | with_reducible apply below_alloc | with_reducible apply pw_below_drewN | with_reducible apply below_drew1 | with_reducible refine bt ?_ hb4 | with_reducible refine bt ?_ hb3 | with_reducible exact Below.refl _ _))); rintro e w3 ⟨v2, rfl, hR3, hb3⟩; obtain ⟨A2, c2x, rfl, l2, hC3⟩ := Kd.R_reads hR3; have HR3 := Kd.R_mono (Kd.R_bound hR3) (ok' := fun k => _ ≤ k ∧ k < w3.heap.size) (fun k hk => ⟨hk.2.1, hk.2.2.1⟩); clear hR3; (try simp only [World.size_alloc, World.size_drew] at HR3); have e3 := bc hb3; have e3c := e3.1; have e3f := e3.2; clear e3; (try simp only [World.size_alloc] at e3c e3f); have z3 := hb3.size; (try simp only [World.size_alloc, World.size_drew] at z3); (try have y3 := Nat.lt_of_succ_le z3); (try have x3 := Nat.lt_of_succ_le (Nat.le_of_succ_le z3)); (try have u1 : w2.heap.size < w3.heap.size := by omega); (try have u2 : w2.heap.size + 1 < w3.heap.size := by omega))
            | ((with_reducible refine (remitterref10_Twin.calls KU u.f0 u.f1 B d u.f2 u.f0 u.f1 u.f2 _ ?c2 hd aU.out).mono ?_); (case c2 => exact Kd.C_below HT2.out.2.2.2.2 (by repeat (first | (with_reducible refine Below.setCell ?_ ?_ _; rotate_left; (dsimp only; omega)) | with_reducible apply below_alloc | with_reducible apply pw_below_drewN | with_reducible apply below_drew1 | with_reducible refine bt ?_ hb4 | with_reducible refine bt ?_ hb3 | with_reducible exact Below.refl _ _))); rintro e w4 ⟨u2, rfl, hR4, hb4⟩; obtain ⟨B2, d2x, rfl, l4, hC4⟩ := Kd.R_reads hR4; have HR4 := Kd.R_mono (Kd.R_bound hR4) (ok' := fun k => _ ≤ k ∧ k < w4.heap.size) (fun k hk => ⟨hk.2.1, hk.2.2.1⟩); clear hR4; (try simp only [World.size_alloc, World.size_drew] at HR4); have e4 := bc hb4; have e4c := e4.1; have e4f := e4.2; clear e4; (try simp only [World.size_alloc] at e4c e4f); have z4 := hb4.size; (try simp only [World.size_alloc, World.size_drew] at z4); (try have y4 := Nat.lt_of_succ_le z4); (try have x4 := Nat.lt_of_succ_le (Nat.le_of_succ_le z4)); (try have u4 : w2.heap.size < w4.heap.size := by omega); (try have u5 : w2.heap.size + 1 < w4.heap.size := by omega); (try have u6 : w3.heap.size < w4.heap.size := by omega); (try have u7 : w3.heap.size + 1 < w4.heap.size := by omega))))
         all_goals
          go_wp2_with fail
          go_meet
          case rel =>
            (try clear G1 G2 N1 N2)
            (try clear e3c e3f)
            (try clear e4c e4f)
            clear c0 c1 c2 d0 d1 d2 hspd hspe hotd hote hfit hu24
            refine ⟨_, _, A2, B2, c2x, d2x, rfl, rfl, ⟨l2, l4⟩, ⟨leafT HT2.out ?_ ?_ ?_ ?_ ?_⟩⟩
            · repeat (first | (with_reducible refine Below.setCell ?_ ?_ _; rotate_left; (dsimp only; omega)) | with_reducible apply below_alloc | with_reducible apply pw_below_drewN | with_reducible apply below_drew1 | with_reducible refine bt ?_ hb4 | with_reducible refine bt ?_ hb3 | with_reducible exact Below.refl _ _)
            · repeat (first | with_reducible exact f_new (by first | omega | (simp; done) | (simp; omega)) | with_reducible refine f_s3 ?_ _ _ _ | with_reducible refine f_dr ?_ | with_reducible refine f_set (by first | omega | (simp; done) | (simp; omega)) ?_ | with_reducible refine f_al (by first | omega | (simp; done) | (simp; omega)) ?_ | with_reducible refine f_call hb4 (by first | omega | (simp; done) | (simp; omega)) ?_ | with_reducible refine f_call hb3 (by first | omega | (simp; done) | (simp; omega)) ?_ | with_reducible rfl)
            · repeat (first | with_reducible exact f_new (by first | omega | (simp; done) | (simp; omega)) | with_reducible refine f_s3 ?_ _ _ _ | with_reducible refine f_dr ?_ | with_reducible refine f_set (by first | omega | (simp; done) | (simp; omega)) ?_ | with_reducible refine f_al (by first | omega | (simp; done) | (simp; omega)) ?_ | with_reducible refine f_call hb4 (by first | omega | (simp; done) | (simp; omega)) ?_ | with_reducible refine f_call hb3 (by first | omega | (simp; done) | (simp; omega)) ?_ | with_reducible rfl)
            · refine (Kd.R_reads' (Kd.R_move HR3 (fun k hk => ?_))).2.2
              obtain ⟨k1, k2⟩ := hk
              repeat (first | with_reducible exact f_new (by first | omega | (simp; done) | (simp; omega)) | with_reducible refine f_s3 ?_ _ _ _ | with_reducible refine f_dr ?_ | with_reducible refine f_set (by first | omega | (simp; done) | (simp; omega)) ?_ | with_reducible refine f_al (by first | omega | (simp; done) | (simp; omega)) ?_ | with_reducible refine f_call hb4 (by first | omega | (simp; done) | (simp; omega)) ?_ | with_reducible refine f_call hb3 (by first | omega | (simp; done) | (simp; omega)) ?_ | with_reducible rfl)
            · refine (Kd.R_reads' (Kd.R_move HR4 (fun k hk => ?_))).2.2
              obtain ⟨k1, k2⟩ := hk
              repeat (first | with_reducible exact f_new (by first | omega | (simp; done) | (simp; omega)) | with_reducible refine f_s3 ?_ _ _ _ | with_reducible refine f_dr ?_ | with_reducible refine f_set (by first | omega | (simp; done) | (simp; omega)) ?_ | with_reducible refine f_al (by first | omega | (simp; done) | (simp; omega)) ?_ | with_reducible refine f_call hb4 (by first | omega | (simp; done) | (simp; omega)) ?_ | with_reducible refine f_call hb3 (by first | omega | (simp; done) | (simp; omega)) ?_ | with_reducible rfl)
        case rest =>
          obtain ⟨ga, gb, A2, B2, cx, dx, rfl, rfl, HL, HC⟩ := hcut
          have HTo := Lib.hid HC.out.1
          have HTt := Lib.hid HC.out.2
          have l2 := HL.out.1
          have l4 := HL.out.2
          clear HL HC HT2 c0 c1 c2 d0 d1 d2 L1 L2 G1 G2 N1 N2 aT aU
          obtain ⟨KV, hKV⟩ := same_ev v h3
          obtain ⟨KU2, hKU2⟩ := same_ev u j3
          obtain ⟨rb, hrb, KR, hKR⟩ := same_two v u h3
          have aV := Lib.hid (hKV KV (Nat.le_refl _))
          have aW := Lib.hid (hKU2 KU2 (Nat.le_refl _))
          have aR := Lib.hid (hKR KR (Nat.le_refl _))
          clear hKV hKU2 hKR
          have hwe := write_err space v
          have hpw := write_parse space v h3
          have hln := write_len space v
          have hi1 := fun (a : (writeT space v).2 = 0) (b : (writeT space u).2 = 0) => write_inj (sp := space) (sp' := space) h3 j3 a b
          have hi2 := fun (a : (writeT space v).2 = 0) (b : (writeT other v).2 = 0) => write_inj (sp := space) (sp' := other) h3 h3 a b
          have W1 := fun w hr hG => write_any space v A2 cx w hsp hr l2 hG h1 HSv.out h3
          have W2 := fun w hr hG => write_any space u B2 dx w hsp hr l4 hG j1 HSu.out j3
          have W3 := fun w hr hG => write_any other v A2 cx w hot hr l2 hG h1 HSv.out h3
          generalize writeT space v = X at hwe hpw hln hi1 hi2 W1
          generalize writeT space u = Y at hi1 W2
          generalize writeT other v = Z at hi2 W3
          obtain ⟨S, eS⟩ := X
          obtain ⟨T, eT⟩ := Y
          obtain ⟨U, eU⟩ := Z
          simp only at hwe hpw hln hi1 hi2 W1 W2 W3
          have HW1 := Lib.hid W1
          have HW2 := Lib.hid W2
          have HW3 := Lib.hid W3
          have HP := Lib.hid hpw
          have HLN := Lib.hid hln
          have HI1 := Lib.hid hi1
          have HI2 := Lib.hid hi2
          have HRB := Lib.hid hrb
          have HE := Lib.hid hwe
          clear W1 W2 W3 hpw hln hi1 hi2 hrb hwe
          obtain ⟨c0, c1, c2⟩ := HTt.out.1.2.1.cells
          go_wp2_with fail
          refine (HW1.out _ HTt.out.1.2.2.2 HTt.out.1.2.2.1).mono ?_
          rintro e w5 ⟨rfl, hb5⟩
          have HTo5 := Lib.hid (HTo.out.step hb5)
          have HTt5 := Lib.hid (HTt.out.step hb5)
          clear hb5 HTo HTt c0 c1 c2
          by_cases he : eS = 0
          · subst he
            have hP := parse_any S w5 (by have := HLN.out rfl; omega) HTo5.out.1.2.2.1
            rw [HP.out rfl] at hP
            clear HP HE HLN
            go_wp2_with fail
            refine hP.mono ?_
            rintro e w6 ⟨A3, c3, rfl, l3, hC6, hb6⟩
            have hal := below_alloc (Below.refl w6.heap.size w6) (.cells #[.string v.f0, .string v.f1, .slice A3 v.f2.length c3] 24)
            have hG6 := HTo5.out.1.2.2.1.below hb6
            have hX : T1 w6 w6.heap.size v A3 c3 (w6.alloc (.cells #[.string v.f0, .string v.f1, .slice A3 v.f2.length c3] 24)) := ⟨hal, cells_al _ _ _, hG6.below hal, Kd.C_below hC6 hal⟩
            have HX7 := Lib.hid hX
            have HTo7 := Lib.hid ((HTo5.out.step hb6).step hal)
            have HTt7 := Lib.hid ((HTt5.out.step hb6).step hal)
            clear hb6 hC6 hX hal hG6 hP HTo5 HTt5
            obtain ⟨o0, o1, o2⟩ := HTo7.out.1.2.1.cells
            obtain ⟨x0, x1, x2⟩ := HX7.out.2.1.cells
            have y1 : (space.toList != space.toList) = false := by simp
            have y2 : ((S.size : Int) != (S.size : Int)) = false := by simp
            have y3 : (S.size != S.size) = false := by simp
            dsimp only
            go_wp2_with fail
            refine (remitterref10_Same.yes KV v.f0 v.f1 A3 c3 v.f2 v.f0 v.f1 A c v.f2 _ HX7.out.2.2.2 l3 HTo7.out.1.2.2.2 hc aV.out).mono ?_
            rintro e w8 ⟨rfl, hb8⟩
            have HTo8 := Lib.hid (HTo7.out.step hb8)
            have HTt8 := Lib.hid (HTt7.out.step hb8)
            clear hb8 HTo7 HTt7 HX7 o0 o1 o2 x0 x1 x2 y1 y2 y3
            obtain ⟨q0, q1, q2⟩ := HTt8.out.2.2.1.cells
            go_wp2_with fail
            refine (HW2.out _ HTt8.out.2.2.2.2 HTt8.out.2.2.2.1).mono ?_
            rintro e w9 ⟨rfl, hb9⟩
            have HTo9 := Lib.hid (HTo8.out.step hb9)
            have HTt9 := Lib.hid (HTt8.out.step hb9)
            clear hb9 HTo8 HTt8 q0 q1 q2
            obtain ⟨m0, m1, m2⟩ := HTt9.out.1.2.1.cells
            go_wp2_with fail
            refine (HW3.out _ HTt9.out.1.2.2.2 HTt9.out.1.2.2.1).mono ?_
            rintro e w10 ⟨rfl, hb10⟩
            have HTo10 := Lib.hid (HTo9.out.step hb10)
            have HTt10 := Lib.hid (HTt9.out.step hb10)
            clear hb10 HTo9 HTt9 m0 m1 m2
            obtain ⟨o0, o1, o2⟩ := HTo10.out.1.2.1.cells
            obtain ⟨p0, p1, p2⟩ := HTo10.out.2.2.1.cells
            obtain ⟨m0, m1, m2⟩ := HTt10.out.1.2.1.cells
            obtain ⟨q0, q1, q2⟩ := HTt10.out.2.2.1.cells
            by_cases hgT : eT = 0
            · subst hgT
              have z1 : (S.toList == T.toList) = rb := by
                rw [Bool.eq_iff_iff, HRB.out, beq_iff_eq, Lib.toList_data, Lib.toList_data]
                exact ⟨fun h => ((HI1.out trivial rfl).1 (bax h)).2, fun h => congrArg (fun b => b.data.toList) ((HI1.out trivial rfl).2 ⟨trivial, h⟩)⟩
              have z2 : (rb == rb) = true := by simp
              by_cases hgU : eU = 0
              · subst hgU
                have z3 : (S.toList == U.toList) = (space.toList == other.toList) := by
                  rw [Bool.eq_iff_iff, beq_iff_eq, beq_iff_eq, Lib.toList_data, Lib.toList_data, Lib.toList_data, Lib.toList_data]
                  exact ⟨fun h => congrArg (fun b => b.data.toList) ((HI2.out trivial rfl).1 (bax h)).1, fun h => congrArg (fun b => b.data.toList) ((HI2.out trivial rfl).2 ⟨bax h, trivial⟩)⟩
                have z4 : ((space.toList == other.toList) == (space.toList == other.toList)) = true := by simp
                go_wp2_with fail
                refine (remitterref10_Same.yes KV v.f0 v.f1 A2 cx v.f2 v.f0 v.f1 A c v.f2 _ HTt10.out.1.2.2.2 l2 HTo10.out.1.2.2.2 hc aV.out).mono ?_
                rintro e w11 ⟨rfl, hb11⟩
                have HTo11 := Lib.hid (HTo10.out.step hb11)
                have HTt11 := Lib.hid (HTt10.out.step hb11)
                clear hb11 HTo10 HTt10 o0 o1 o2 p0 p1 p2 m0 m1 m2 q0 q1 q2
                obtain ⟨o0, o1, o2⟩ := HTo11.out.1.2.1.cells
                obtain ⟨p0, p1, p2⟩ := HTo11.out.2.2.1.cells
                obtain ⟨q0, q1, q2⟩ := HTt11.out.2.2.1.cells
                go_wp2_with fail
                refine (remitterref10_Same.yes KU2 u.f0 u.f1 B2 dx u.f2 u.f0 u.f1 B d u.f2 _ HTt11.out.2.2.2.2 l4 HTo11.out.2.2.2.2 hd aW.out).mono ?_
                rintro e w12 ⟨rfl, hb12⟩
                have HTo12 := Lib.hid (HTo11.out.step hb12)
                clear hb12 HTo11 HTt11 o0 o1 o2 p0 p1 p2 q0 q1 q2
                obtain ⟨o0, o1, o2⟩ := HTo12.out.1.2.1.cells
                obtain ⟨p0, p1, p2⟩ := HTo12.out.2.2.1.cells
                go_wp2_with fail
                refine (remitterref10_Same.calls KR v.f0 v.f1 A c v.f2 u.f0 u.f1 B d u.f2 rb _ HTo12.out.1.2.2.2 hc HTo12.out.2.2.2.2 hd aR.out).mono ?_
                rintro e w13 ⟨rfl, hb13⟩
                have HTo13 := Lib.hid (HTo12.out.step hb13)
                clear hb13 HTo12 o0 o1 o2 p0 p1 p2
                go_wp2_with fail
                refine (wakes_any _ HTo13.out.1.2.2.1).mono ?_
                rintro e w14 ⟨rfl, hb14⟩
                have HTo14 := Lib.hid (HTo13.out.step hb14)
                clear hb14 HTo13
                go_wp2_with fail
                go_ret
                exact ⟨rfl, HTo14.out.1.1⟩
              · have z3 : (eU != 0) = true := by simpa using hgU
                have z4 : (eU == 0) = false := by simpa using hgU
                clear hgU
                go_wp2_with fail
                refine (remitterref10_Same.yes KV v.f0 v.f1 A2 cx v.f2 v.f0 v.f1 A c v.f2 _ HTt10.out.1.2.2.2 l2 HTo10.out.1.2.2.2 hc aV.out).mono ?_
                rintro e w11 ⟨rfl, hb11⟩
                have HTo11 := Lib.hid (HTo10.out.step hb11)
                have HTt11 := Lib.hid (HTt10.out.step hb11)
                clear hb11 HTo10 HTt10 o0 o1 o2 p0 p1 p2 m0 m1 m2 q0 q1 q2
                obtain ⟨o0, o1, o2⟩ := HTo11.out.1.2.1.cells
                obtain ⟨p0, p1, p2⟩ := HTo11.out.2.2.1.cells
                obtain ⟨q0, q1, q2⟩ := HTt11.out.2.2.1.cells
                go_wp2_with fail
                refine (remitterref10_Same.yes KU2 u.f0 u.f1 B2 dx u.f2 u.f0 u.f1 B d u.f2 _ HTt11.out.2.2.2.2 l4 HTo11.out.2.2.2.2 hd aW.out).mono ?_
                rintro e w12 ⟨rfl, hb12⟩
                have HTo12 := Lib.hid (HTo11.out.step hb12)
                clear hb12 HTo11 HTt11 o0 o1 o2 p0 p1 p2 q0 q1 q2
                obtain ⟨o0, o1, o2⟩ := HTo12.out.1.2.1.cells
                obtain ⟨p0, p1, p2⟩ := HTo12.out.2.2.1.cells
                go_wp2_with fail
                refine (remitterref10_Same.calls KR v.f0 v.f1 A c v.f2 u.f0 u.f1 B d u.f2 rb _ HTo12.out.1.2.2.2 hc HTo12.out.2.2.2.2 hd aR.out).mono ?_
                rintro e w13 ⟨rfl, hb13⟩
                have HTo13 := Lib.hid (HTo12.out.step hb13)
                clear hb13 HTo12 o0 o1 o2 p0 p1 p2
                go_wp2_with fail
                refine (wakes_any _ HTo13.out.1.2.2.1).mono ?_
                rintro e w14 ⟨rfl, hb14⟩
                have HTo14 := Lib.hid (HTo13.out.step hb14)
                clear hb14 HTo13
                go_wp2_with fail
                go_ret
                exact ⟨rfl, HTo14.out.1.1⟩
            · have z1 : (eT != 0) = true := by simpa using hgT
              have z2 : (eT == 0) = false := by simpa using hgT
              clear hgT
              by_cases hgU : eU = 0
              · subst hgU
                have z3 : (S.toList == U.toList) = (space.toList == other.toList) := by
                  rw [Bool.eq_iff_iff, beq_iff_eq, beq_iff_eq, Lib.toList_data, Lib.toList_data, Lib.toList_data, Lib.toList_data]
                  exact ⟨fun h => congrArg (fun b => b.data.toList) ((HI2.out trivial rfl).1 (bax h)).1, fun h => congrArg (fun b => b.data.toList) ((HI2.out trivial rfl).2 ⟨bax h, trivial⟩)⟩
                have z4 : ((space.toList == other.toList) == (space.toList == other.toList)) = true := by simp
                go_wp2_with fail
                refine (remitterref10_Same.yes KV v.f0 v.f1 A2 cx v.f2 v.f0 v.f1 A c v.f2 _ HTt10.out.1.2.2.2 l2 HTo10.out.1.2.2.2 hc aV.out).mono ?_
                rintro e w11 ⟨rfl, hb11⟩
                have HTo11 := Lib.hid (HTo10.out.step hb11)
                have HTt11 := Lib.hid (HTt10.out.step hb11)
                clear hb11 HTo10 HTt10 o0 o1 o2 p0 p1 p2 m0 m1 m2 q0 q1 q2
                obtain ⟨o0, o1, o2⟩ := HTo11.out.1.2.1.cells
                obtain ⟨p0, p1, p2⟩ := HTo11.out.2.2.1.cells
                obtain ⟨q0, q1, q2⟩ := HTt11.out.2.2.1.cells
                go_wp2_with fail
                refine (remitterref10_Same.yes KU2 u.f0 u.f1 B2 dx u.f2 u.f0 u.f1 B d u.f2 _ HTt11.out.2.2.2.2 l4 HTo11.out.2.2.2.2 hd aW.out).mono ?_
                rintro e w12 ⟨rfl, hb12⟩
                have HTo12 := Lib.hid (HTo11.out.step hb12)
                clear hb12 HTo11 HTt11 o0 o1 o2 p0 p1 p2 q0 q1 q2
                obtain ⟨o0, o1, o2⟩ := HTo12.out.1.2.1.cells
                obtain ⟨p0, p1, p2⟩ := HTo12.out.2.2.1.cells
                have HTo13 := HTo12
                clear HTo12
                go_wp2_with fail
                refine (wakes_any _ HTo13.out.1.2.2.1).mono ?_
                rintro e w14 ⟨rfl, hb14⟩
                have HTo14 := Lib.hid (HTo13.out.step hb14)
                clear hb14 HTo13
                go_wp2_with fail
                go_ret
                exact ⟨rfl, HTo14.out.1.1⟩
              · have z3 : (eU != 0) = true := by simpa using hgU
                have z4 : (eU == 0) = false := by simpa using hgU
                clear hgU
                go_wp2_with fail
                refine (remitterref10_Same.yes KV v.f0 v.f1 A2 cx v.f2 v.f0 v.f1 A c v.f2 _ HTt10.out.1.2.2.2 l2 HTo10.out.1.2.2.2 hc aV.out).mono ?_
                rintro e w11 ⟨rfl, hb11⟩
                have HTo11 := Lib.hid (HTo10.out.step hb11)
                have HTt11 := Lib.hid (HTt10.out.step hb11)
                clear hb11 HTo10 HTt10 o0 o1 o2 p0 p1 p2 m0 m1 m2 q0 q1 q2
                obtain ⟨o0, o1, o2⟩ := HTo11.out.1.2.1.cells
                obtain ⟨p0, p1, p2⟩ := HTo11.out.2.2.1.cells
                obtain ⟨q0, q1, q2⟩ := HTt11.out.2.2.1.cells
                go_wp2_with fail
                refine (remitterref10_Same.yes KU2 u.f0 u.f1 B2 dx u.f2 u.f0 u.f1 B d u.f2 _ HTt11.out.2.2.2.2 l4 HTo11.out.2.2.2.2 hd aW.out).mono ?_
                rintro e w12 ⟨rfl, hb12⟩
                have HTo12 := Lib.hid (HTo11.out.step hb12)
                clear hb12 HTo11 HTt11 o0 o1 o2 p0 p1 p2 q0 q1 q2
                obtain ⟨o0, o1, o2⟩ := HTo12.out.1.2.1.cells
                obtain ⟨p0, p1, p2⟩ := HTo12.out.2.2.1.cells
                have HTo13 := HTo12
                clear HTo12
                go_wp2_with fail
                refine (wakes_any _ HTo13.out.1.2.2.1).mono ?_
                rintro e w14 ⟨rfl, hb14⟩
                have HTo14 := Lib.hid (HTo13.out.step hb14)
                clear hb14 HTo13
                go_wp2_with fail
                go_ret
                exact ⟨rfl, HTo14.out.1.1⟩
          · rcases HE.out with h | h | h
            · exact absurd h he
            all_goals
              obtain ⟨rfl, rfl⟩ := Prod.mk.inj h
              clear h he
              go_wp2_with fail
              refine (wakes_any w5 HTo5.out.1.2.2.1).mono ?_
              rintro e w6 ⟨rfl, hb6⟩
              have HTo6 := Lib.hid (HTo5.out.step hb6)
              clear hb6
              go_wp2_with fail
              go_ret
              exact ⟨rfl, HTo6.out.1.1⟩
      · have hotd : decide ((200 : Int) < (other.size : Int)) = true := decide_eq_true (by omega)
        have hote : decide (200 < other.size) = true := decide_eq_true (by omega)
        go_wp2_with fail
        refine (wakes_any w2 HT2.out.1.2.2.1).mono ?_
        rintro e w3 ⟨rfl, hb3⟩
        have HT3 := Lib.hid (HT2.out.step hb3)
        clear hb3
        go_wp2_with fail
        go_ret
        exact ⟨rfl, HT3.out.1.1⟩
    · have hspd : decide ((200 : Int) < (space.size : Int)) = true := decide_eq_true (by omega)
      have hspe : decide (200 < space.size) = true := decide_eq_true (by omega)
      go_wp2_with fail
      refine (wakes_any w2 HT2.out.1.2.2.1).mono ?_
      rintro e w3 ⟨rfl, hb3⟩
      have HT3 := Lib.hid (HT2.out.step hb3)
      clear hb3
      go_wp2_with fail
      go_ret
      exact ⟨rfl, HT3.out.1.1⟩
theorem outBack_any (a0 a1 : ByteArray) (a2 : S24) (A2 : Option Addr) (c2 : Nat) (a3 : S24) (A3 : Option Addr) (c3 : Nat) (W : World) (w0 : a0.size ≤ 140737488351232) (w1 : a1.size ≤ 140737488351232) (g2 : k24.C W A2 a2.f2.length a2.f2) (l2 : a2.f2.length ≤ c2) (f2 : fitL [a2]) (g3 : k24.C W A3 a3.f2.length a3.f2) (l3 : a3.f2.length ≤ c3) (f3 : fitL [a3]) (hG : P.Glob W) :
    Calls Tryz.prog 12 #[.string a0, .string a1, .agg #[.string a2.f0, .string a2.f1, .slice A2 a2.f2.length c2], .agg #[.string a3.f0, .string a3.f1, .slice A3 a3.f2.length c3]] W fun e W' => e = .returned (.bool true) ∧ Below W.heap.size W W' := by
  refine back_any a0 a1 a2 a3 A2 A3 c2 c3 W g2 l2 g3 l3 hG ?_
  obtain ⟨a, b, q⟩ := a2
  obtain ⟨a', b', q'⟩ := a3
  simp only [fitL] at f2 f3 ⊢
  exact ⟨f2.1, f2.2.1, f2.2.2.1, f2.2.2.2.1, f3⟩
end Go.Proofs.YtknfpggiigncpaaGreatDoor.G
