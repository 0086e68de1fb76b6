/- The document's reading of a tree: its words; Blank; an element in another one (kid). -/
import Derived.Test.YtknfpggiigncpaaGreatDoorBx0
import Derived.Test.YtknfpggiigncpaaGreatDoorTp3
import Derived.Test.YtknfpggiigncpaaGreatDoorLawTells
set_option linter.unusedVariables false
set_option linter.unusedSimpArgs false
namespace Go.Proofs.YtknfpggiigncpaaGreatDoor.T
open Go.RowKit P E YtknfpggiigncpaaGreatDoorW.PrintLast YtknfpggiigncpaaGreatDoorW.PrintMore
open YtknfpggiigncpaaGreatDoorW.PrintWords
open C (Ch)
open B in
theorem blank2_l0 (s : ByteArray) (hs : s.size ≤ 4398046511104) : ∀ (d i : Nat), i + d = s.size → B.Ev (fun k => remitterref08_Blank.l0 k s (i : Int)) ((s.data.toList.drop i).all blankB)
  | 0, i, h => by
    refine ⟨1, fun k hk => ?_⟩
    obtain ⟨k, rfl⟩ : ∃ j, k = j + 1 := ⟨k - 1, by omega⟩
    simp only [remitterref08_Blank.l0]
    rw [if_neg (by omega), List.drop_of_length_le (by simp; omega)]
    rfl
  | d + 1, i, h => by
    obtain ⟨K, hK⟩ := blank2_l0 s hs d (i + 1) (by omega)
    have hi : i < s.size := by omega
    refine ⟨K + 1, fun k hk => ?_⟩
    obtain ⟨k, rfl⟩ : ∃ j, k = j + 1 := ⟨k - 1, by omega⟩
    have hk' := hK k (by omega)
    simp only at hk'
    simp only [remitterref08_Blank.l0]
    rw [if_pos (by omega), if_pos (by omega), bt_of s i hi, w_succ i (by omega), hk', drop_at s i hi, List.all_cons]
    generalize s[i] = b
    by_cases h1 : b = 32
    · subst h1; rfl
    by_cases h2 : b = 9
    · subst h2; rfl
    by_cases h3 : b = 10
    · subst h3; rfl
    by_cases h4 : b = 13
    · subst h4; rfl
    rw [if_neg (byte_ne (c := 32) (z := 32) rfl h1), if_neg (byte_ne (c := 9) (z := 9) rfl h2), if_neg (byte_ne (c := 10) (z := 10) rfl h3), if_neg (byte_ne (c := 13) (z := 13) rfl h4)]
    simp [blankB, h1, h2, h3, h4]
theorem rblank_any (s : ByteArray) (r : Bool) (hr : blankL s.data.toList = r) (hs : s.size ≤ 4398046511104) (w : World) : Calls Tryz.prog 34 #[.string s] w fun e w' => e = .returned (.bool r) ∧ ∃ n, w' = w.drewN n := by
  obtain ⟨k, hk⟩ := blank2_l0 s hs s.size 0 (by omega)
  refine (B.remitterref08_Blank.calls k s r w ?_).mono fun e w' ⟨h1, h2⟩ => ⟨h1, by obtain ⟨m, hm⟩ := h2; exact ⟨m, hm⟩⟩
  have := hk k (Nat.le_refl _)
  rw [List.drop_zero] at this
  unfold B.remitterref08_Blank.f
  rw [← hr]
  exact this
theorem ch_grown {g : Nat} {w1 W W' : World} (h : Ch g w1 W) {row : Option Nat} (hg : W.grownBy W' row) (hgw : g < w1.heap.size) (hr : ∀ r, row = some r → w1.heap.size ≤ r) : Ch g w1 W' :=
  ⟨h.1.trans ⟨hg.os, hg.tape, hg.output, hg.size, fun k hk => hg.block k (Nat.lt_of_lt_of_le (Nat.lt_trans hk hgw) h.2.1) (fun e => by have := hr k e.symm; omega)⟩,
   h.2.trans (KeepBut.of_grown hg g) (by cases row with | none => exact .inl rfl | some r => exact .inr ⟨r, rfl, hr r rfl⟩)⟩
theorem ch_far {g : Nat} {w1 W : World} (h : Ch g w1 W) {p : Nat} (hgw : g < w1.heap.size) (hp : w1.heap.size ≤ p) (j : Nat) (u : Value) : Ch g w1 (W.setCell ⟨p, j, none⟩ u) :=
  ⟨h.1.setCell (p := ⟨p, j, none⟩) (by show g ≤ p; omega) u, keep_far h.2 (p := ⟨p, j, none⟩) hp u⟩
theorem ch_below {g : Nat} {w1 W W' : World} (h : Ch g w1 W) (hgw : g < w1.heap.size) (hb : Below W.heap.size W W') : Ch g w1 W' := h.trans (Ch.of_below hb (by have := h.2.1; omega))
def Sst (g : Nat) (A : Option Addr) (c : Nat) (l : List C.S88) (i n m : Nat) (sp : ByteArray) (W : World) : Prop := W.heap[g]? = some (.cells #[.slice A l.length c, .int .i64 (i : Int), .int .i64 (n : Int), .int .i64 (m : Int), .string sp] 117 (0, 0))
def RRes (g : Nat) (A : Option Addr) (c : Nat) (l44 : List C.S44) (n : Nat) (inn : ByteArray) (w1 : World) (gr : Nat) (cs : Array Value) (r : Except (Int × Int) (S24 × Nat × List C.S44)) (e : Ending) (W' : World) : Prop :=
  Ch g w1 W' ∧ W'.heap[gr]? = some (.cells cs 24 (0, 0)) ∧
  match r with
  | .error (a, er) => er ≠ 0 ∧ ∃ (x0 x1 : ByteArray) (xa : Option Addr) (xn xc : Nat), e = .returned (.tuple #[.agg #[.string x0, .string x1, .slice xa xn xc], .int .i64 a, .int .i64 er])
  | .ok (v, m, toks) => ∃ kv i, e = .returned (.tuple #[.agg #[.string v.f0, .string v.f1, kv], .int .i64 0, .int .i64 0]) ∧ k24.R 24 W' w1.heap.size (fun k => k ≠ gr) kv v.f2 ∧ Sst g A c (l44.map C.tr44) i n m inn W' ∧ l44.drop i = toks ∧ i ≤ l44.length
def ERes (g : Nat) (A : Option Addr) (c : Nat) (l44 : List C.S44) (n : Nat) (w1 : World) (r : Except (Int × Int) (S24 × Nat × ByteArray × List C.S44)) (e : Ending) (W' : World) : Prop :=
  Ch g w1 W' ∧
  match r with
  | .error (a, er) => er ≠ 0 ∧ ∃ (x0 x1 : ByteArray) (xa : Option Addr) (xn xc : Nat), e = .returned (.tuple #[.agg #[.string x0, .string x1, .slice xa xn xc], .int .i64 a, .int .i64 er])
  | .ok (v, m, inn, toks) => ∃ kv i, e = .returned (.tuple #[.agg #[.string v.f0, .string v.f1, kv], .int .i64 0, .int .i64 0]) ∧ k24.R 24 W' w1.heap.size (fun _ => True) kv v.f2 ∧ Sst g A c (l44.map C.tr44) i n m inn W' ∧ l44.drop i = toks ∧ i ≤ l44.length
def elemS (n : Int) (f : Nat) (sp : List (List UInt8 × List UInt8)) (deep many : Nat) (space : ByteArray) : List C.S44 → Except (Int × Int) (S24 × Nat × ByteArray × List C.S44)
  | [] => .error (n, 23)
  | t :: r =>
    match headT sp deep many space t with
    | .error e => .error (t.f5, e)
    | .ok (nd, m2, inn) =>
      if t.f4 = true then .ok (valT nd, m2, inn, r)
      else
        match loopR n f nd deep m2 inn r with
        | .error z => .error z
        | .ok (v, m3, l') => .ok (v, m3, inn, l')
def kidS (n : Int) (f : Nat) (sp : List (List UInt8 × List UInt8)) (deep many : Nat) (space said : ByteArray) (toks : List C.S44) : Except (Int × Int) (S24 × Nat × ByteArray × List C.S44) :=
  if blankL said.data.toList = true then elemS n f sp deep many space toks
  else match toks with | [] => .error (n, 23) | t :: _ => .error (t.f5, 23)
def restS (n : Int) (f : Nat) (ks : List S24) (t : C.S44) (loc inn : ByteArray) (sp : List (List UInt8 × List UInt8)) (deep many : Nat) (space : ByteArray) (toks : List C.S44) : Except (Int × Int) (S24 × Nat × List C.S44) :=
  if inn ≠ (if deep = 0 then inn else space) then .error (t.f5, 24)
  else if deep = 64 then .error (t.f5, 4)
  else if many + 1 > 20000 then .error (t.f5, 3)
  else if t.f4 = true then .ok (valT ⟨loc, ⟨#[]⟩, ks, t.f1, sp, ⟨#[]⟩, false⟩, many + 1, toks)
  else loopR n f ⟨loc, ⟨#[]⟩, ks, t.f1, sp, ⟨#[]⟩, false⟩ deep (many + 1) (if deep = 0 then inn else space) toks
structure Tw (wt : World) (g : Nat) (A : Option Addr) (l44 : List C.S44) (n : Nat) : Prop where
  low : wt.heap.size ≤ g
  rd : C.k88.C wt A (l44.map C.tr44).length (l44.map C.tr44)
  len : l44.length ≤ 1048576
  ok : ∀ t ∈ l44, TokOk t
  n : n ≤ 1048576
def ElemAt (wt : World) (g : Nat) (A : Option Addr) (c : Nat) (l44 : List C.S44) (n : Nat) (k : Nat) : Prop :=
  ∀ (W : World) (i m : Nat) (space : ByteArray) (toks : List C.S44) (A2 : Option Addr) (c2 : Nat) (sp : List (List UInt8 × List UInt8)) (deep f : Nat),
    Sst g A c (l44.map C.tr44) i n m space W → Below wt.heap.size wt W → Kd.C F.k174 W A2 (spS sp).length (spS sp) → (spS sp).length ≤ c2 → l44.drop i = toks → toks ≠ [] → toks.length ≤ k → toks.length ≤ f + 1 → deep ≤ 64 → m ≤ 20000 → sp.length ≤ 20 * deep →
    Calls Tryz.prog 76 #[.pointer (some ⟨g, 0, none⟩), .slice A2 (spS sp).length c2, .int .i64 (deep : Int)] W (ERes g A c l44 n W (elemS (n : Int) f sp deep m space toks))
def KidAt (wt : World) (g : Nat) (A : Option Addr) (c : Nat) (l44 : List C.S44) (n : Nat) (k : Nat) : Prop :=
  ∀ (W : World) (i m : Nat) (space said : ByteArray) (toks : List C.S44) (A2 : Option Addr) (c2 : Nat) (sp : List (List UInt8 × List UInt8)) (deep f : Nat),
    Sst g A c (l44.map C.tr44) i n m space W → Below wt.heap.size wt W → Kd.C F.k174 W A2 (spS sp).length (spS sp) → (spS sp).length ≤ c2 → l44.drop i = toks → toks ≠ [] → toks.length ≤ k → toks.length ≤ f + 1 → deep ≤ 64 → m ≤ 20000 → sp.length ≤ 20 * deep → said.size ≤ 4398046511104 →
    Calls Tryz.prog 148 #[.pointer (some ⟨g, 0, none⟩), .slice A2 (spS sp).length c2, .int .i64 (deep : Int), .string said] W (ERes g A c l44 n W (kidS (n : Int) f sp deep m space said toks))
theorem results148 {g : Nat} {x0 x1 x2 at_ er : Value} {W : World} (h : W.heap[g]? = some (.cells #[x0, x1, x2] 24 (0, 0))) (tmps : Array Value) (h3 : tmps.getD 8 undef = .pointer (some ⟨g, 0, none⟩)) (h4 : tmps.getD 9 undef = at_) (h5 : tmps.getD 10 undef = er) :
    (results Tryz.f148 tmps).run Tryz.prog W = .ok (.tuple #[.agg #[x0, x1, x2], at_, er]) W := by
  have k0 := crow 0 x0 h
  have k1 := crow 1 x1 h
  have k2 := crow 2 x2 h
  rw [Array.getD_eq_getD_getElem?] at h3 h4 h5
  simp [results, Tryz.results148, go_sem, h3, h4, h5, k0, k1, k2]
theorem s3 {W : World} {g : Nat} {x0 x1 x2 : Value} (h : W.heap[g]? = some (.cells #[x0, x1, x2] 24 (0, 0))) (a b c : Value) : (((W.setCell ⟨g, 0, none⟩ a).setCell ⟨g, 1, none⟩ b).setCell ⟨g, 2, none⟩ c).heap[g]? = some (.cells #[a, b, c] 24 (0, 0)) := by
  rw [blk_set (blk_set (blk_set h 0 a) 1 b) 2 c]
  rfl
theorem s3d {W : World} {g : Nat} {x0 x1 x2 : Value} (h : W.heap[g]? = some (.cells #[x0, x1, x2] 24 (0, 0))) (a b c : Value) : (((W.setCell ⟨g, 0, none⟩ a).setCell ⟨g, 1, none⟩ b).setCell ⟨g, 2, none⟩ c).drew.heap[g]? = some (.cells #[a, b, c] 24 (0, 0)) := s3 h a b c
theorem ch_far3 {g : Nat} {w1 W : World} (h : Ch g w1 W) {p : Nat} (hgw : g < w1.heap.size) (hp : w1.heap.size ≤ p) (a b c : Value) : Ch g w1 (((W.setCell ⟨p, 0, none⟩ a).setCell ⟨p, 1, none⟩ b).setCell ⟨p, 2, none⟩ c) := ch_far (ch_far (ch_far h hgw hp 0 a) hgw hp 1 b) hgw hp 2 c
theorem R_far3 {W : World} {base p : Nat} {ok : Nat → Prop} {v : Value} {xs : List S24} (h : k24.R 24 W base ok v xs) (hp : ∀ k, ok k → base ≤ k → k < W.heap.size → k ≠ p) (a b c : Value) : k24.R 24 (((W.setCell ⟨p, 0, none⟩ a).setCell ⟨p, 1, none⟩ b).setCell ⟨p, 2, none⟩ c) base ok v xs :=
  Kd.R_mono (Kd.R_far (Kd.R_far (Kd.R_far (Kd.R_bound h) (p := ⟨p, 0, none⟩) (fun k hk => hp k hk.1 hk.2.1 hk.2.2.1) a) (p := ⟨p, 1, none⟩) (fun k hk => hp k hk.1 hk.2.1 hk.2.2.1) b) (p := ⟨p, 2, none⟩) (fun k hk => hp k hk.1 hk.2.1 hk.2.2.1) c) (fun k hk => hk.1)
theorem tok_get {wt W : World} {g n : Nat} {A : Option Addr} {l44 toks : List C.S44} {t : C.S44} {i : Nat} (hT : Tw wt g A l44 n) (hd : l44.drop i = t :: toks) (hb : Below wt.heap.size wt W) :
    i < l44.length ∧ TokOk t ∧ l44.drop (i + 1) = toks ∧ ∃ ad A3 c3, A = some ad ∧ W.cell? (ad.add (i * 6)) = some (.int .u8 t.f0) ∧ W.cell? ⟨(ad.add (i * 6)).block, (ad.add (i * 6)).off + 1, none⟩ = some (.string t.f1) ∧ W.cell? ⟨(ad.add (i * 6)).block, (ad.add (i * 6)).off + 2, none⟩ = some (.string t.f2) ∧ W.cell? ⟨(ad.add (i * 6)).block, (ad.add (i * 6)).off + 3, none⟩ = some (.slice A3 t.f3.length c3) ∧ W.cell? ⟨(ad.add (i * 6)).block, (ad.add (i * 6)).off + 4, none⟩ = some (.bool t.f4) ∧ W.cell? ⟨(ad.add (i * 6)).block, (ad.add (i * 6)).off + 5, none⟩ = some (.int .i64 t.f5) ∧ t.f3.length ≤ c3 ∧ C.k92.C wt A3 t.f3.length (t.f3.map C.tr77) ∧ (ad.add (i * 6)).block < wt.heap.size := by
  have hi : i < l44.length := by
    by_cases h : i < l44.length
    · exact h
    · rw [List.drop_of_length_le (by omega)] at hd; cases hd
  rw [List.drop_eq_getElem_cons hi] at hd
  injection hd with h1 h2
  have hm : l44[i] ∈ l44 := List.getElem_mem hi
  rw [h1] at hm
  have hlen : (l44.map C.tr44).length = l44.length := List.length_map ..
  obtain ⟨ad, A3, c3, e, x0, x1, x2, x3, x4, x5, l3, q3⟩ := C.at_T88 hT.rd (i : Int) (by omega) (by omega)
  have hrd : C.rd_T88 (l44.map C.tr44) (i : Int) = C.tr44 t := by
    unfold C.rd_T88
    rw [Int.toNat_natCast, List.getD_eq_getElem?_getD, List.getElem?_map, List.getElem?_eq_getElem hi, h1]
    rfl
  rw [hrd] at x0 x1 x2 x3 x4 x5 l3 q3
  have e3 : (C.tr44 t).f3.length = t.f3.length := by show (t.f3.map C.tr77).length = _; simp
  rw [e3] at x3 l3 q3
  simp only [Int.toNat_natCast] at x0 x1 x2 x3 x4 x5
  exact ⟨hi, hT.ok t hm, h2, ad, A3, c3, e, (hb.cell (World.block_lt_of_cell? wt _ x0)).trans x0, (hb.cell (World.block_lt_of_cell? wt _ x1)).trans x1, (hb.cell (World.block_lt_of_cell? wt _ x2)).trans x2, (hb.cell (World.block_lt_of_cell? wt _ x3)).trans x3, (hb.cell (World.block_lt_of_cell? wt _ x4)).trans x4, (hb.cell (World.block_lt_of_cell? wt _ x5)).trans x5, l3, q3, World.block_lt_of_cell? wt _ x0⟩
set_option maxHeartbeats 8000000 in
set_option maxRecDepth 100000 in
theorem kid_of {wt : World} {g : Nat} {A : Option Addr} {c : Nat} {l44 : List C.S44} {n k : Nat} (hT : Tw wt g A l44 n) (ih : ElemAt wt g A c l44 n k) : KidAt wt g A c l44 n k := by
  intro W i m space said toks A2 c2 sp deep f hS hB hC hc hd hne hk hf hdp hm hsp hsd
  have hgW : g < W.heap.size := (Array.getElem?_eq_some_iff.1 hS).1
  have hba := below_alloc (Below.refl W.heap.size W) (.cells #[.string ⟨#[]⟩, .string ⟨#[]⟩, .slice none 0 0] 24)
  have hq0 := (MapKept.heap_alloc W (.cells #[.string ⟨#[]⟩, .string ⟨#[]⟩, .slice none 0 0] 24)).1
  have HCH := Lib.hid (ch_below (Ch.refl g W) hgW hba)
  have HT := Lib.hid hT
  have IH := Lib.hid ih
  have hS1 : Sst g A c (l44.map C.tr44) i n m space (W.alloc (.cells #[.string ⟨#[]⟩, .string ⟨#[]⟩, .slice none 0 0] 24)) := (hba.block g hgW).trans hS
  have hB1 := hB.trans (hba.mono hB.size)
  have hC1 := Kd.C_below hC hba
  have HS := Lib.hid hS1
  have HB := Lib.hid hB1
  have HC := Lib.hid hC1
  obtain ⟨R, hR⟩ : ∃ R, kidS (n : Int) f sp deep m space said toks = R := ⟨_, rfl⟩
  rw [hR]
  have HR := Lib.hid hR
  have HD := Lib.hid hd
  clear hS hB hC hS1 hB1 hC1 hT ih hR hd hba
  go_enter Tryz.func148, Tryz.ntmps148
  go_wp2_with fail
  refine (rblank_any said (blankL said.data.toList) rfl hsd _).mono ?_
  rintro e w2 ⟨rfl, nq, rfl⟩
  have hbd := pw_below_drewN (Below.refl (W.alloc (.cells #[.string ⟨#[]⟩, .string ⟨#[]⟩, .slice none 0 0] 24)).heap.size (W.alloc (.cells #[.string ⟨#[]⟩, .string ⟨#[]⟩, .slice none 0 0] 24))) nq
  have HCH2 := Lib.hid (ch_below HCH.out hgW hbd)
  have HS2 := Lib.hid (show Sst g A c (l44.map C.tr44) i n m space _ from (hbd.block g (by simp; omega)).trans HS.out)
  have HB2 := Lib.hid (HB.out.trans (hbd.mono HB.out.size))
  have HC2 := Lib.hid (Kd.C_below HC.out hbd)
  have hq2 := (hbd.block W.heap.size (by simp)).trans hq0
  have hz2 : W.heap.size < ((W.alloc (.cells #[.string ⟨#[]⟩, .string ⟨#[]⟩, .slice none 0 0] 24)).drewN nq).heap.size := (Array.getElem?_eq_some_iff.1 hq2).1
  clear HCH HS HB HC hbd hq0
  generalize (W.alloc (.cells #[.string ⟨#[]⟩, .string ⟨#[]⟩, .slice none 0 0] 24)).drewN nq = w2 at *
  generalize hgq : W.heap.size = gq at *
  cases hbl : blankL said.data.toList with
  | true =>
    have hR := HR.out
    unfold kidS at hR
    rw [if_pos hbl] at hR
    have HBL := Lib.hid hbl
    clear hbl
    have HE := Lib.hid (IH.out w2 i m space toks A2 c2 sp deep f HS2.out HB2.out HC2.out hc HD.out hne hk hf hdp hm hsp)
    rw [hR] at HE
    have HRR := Lib.hid hR
    clear hR
    dsimp only
    go_wp2_with fail
    refine HE.out.mono ?_
    rintro e w3 ⟨hch, hr⟩
    have HCH3 := Lib.hid hch
    have hq3 := (hch.2.2 gq hz2 (by omega) (by simp)).trans hq2
    have y0 := crow 0 (Value.string ⟨#[]⟩) hq3
    have f0 := frozen_of_row _ _ 0 _ _ hq3
    have y1 := crow 1 (Value.string ⟨#[]⟩) hq3
    have f1 := frozen_of_row _ _ 1 _ _ hq3
    have y2 := crow 2 (Value.slice none 0 0) hq3
    have f2 := frozen_of_row _ _ 2 _ _ hq3
    cases R with
    | error z =>
      obtain ⟨a, er⟩ := z
      obtain ⟨hne0, x0, x1, xa, xn, xc, rfl⟩ := hr
      have HNE := Lib.hid hne0
      clear hch hne0 hne
      dsimp only
      go_wp2_with fail
      refine bodyPost_ret (results148 (s3 hq3 _ _ _) _ rfl rfl rfl) rfl ?_
      exact ⟨ch_far3 (HCH2.out.trans HCH3.out) (by omega) (by omega) _ _ _, HNE.out, x0, x1, xa, xn, xc, rfl⟩
    | ok z =>
      obtain ⟨v, m2, inn, toks2⟩ := z
      obtain ⟨kv, i2, rfl, hR3, hS3, hd3, hi3⟩ := hr
      obtain ⟨Ak, ck, rfl⟩ := Kd.R_slice hR3
      have HR3 := Lib.hid hR3
      have HS3 := Lib.hid hS3
      have HD3 := Lib.hid hd3
      clear hch hR3 hS3 hd3 hne
      dsimp only
      go_wp2_with fail
      refine bodyPost_ret (results148 (s3 hq3 _ _ _) _ rfl rfl rfl) rfl ?_
      have hgg : g ≠ gq := by omega
      refine ⟨ch_far3 (HCH2.out.trans HCH3.out) (by omega) (by omega) _ _ _, _, i2, rfl, Kd.R_lower (R_far3 HR3.out (fun k _ h1 _ => by omega) _ _ _) (by omega), ?_, HD3.out, hi3⟩
      exact (Below.heap_setCell _ ⟨gq, 2, none⟩ _ g hgg).trans ((Below.heap_setCell _ ⟨gq, 1, none⟩ _ g hgg).trans ((Below.heap_setCell _ ⟨gq, 0, none⟩ _ g hgg).trans HS3.out))
  | false =>
    have hR := HR.out
    unfold kidS at hR
    rw [if_neg (by rw [hbl]; decide)] at hR
    have HBL := Lib.hid hbl
    cases toks with
    | nil => exact absurd rfl hne
    | cons t r =>
      obtain ⟨hi, hok, hd1, ad, A3, c3, rfl, hx0, hx1, hx2, hx3, hx4, hx5, hl3, hi3, hlt⟩ := tok_get HT.out HD.out HB2.out
      simp only at hR
      subst hR
      clear hbl hne hi3 hx0 hx1 hx2 hx3 hx4 hd1 hok
      have y0 := crow 0 (Value.string ⟨#[]⟩) hq2
      have f0 := frozen_of_row _ _ 0 _ _ hq2
      have y1 := crow 1 (Value.string ⟨#[]⟩) hq2
      have f1 := frozen_of_row _ _ 1 _ _ hq2
      have y2 := crow 2 (Value.slice none 0 0) hq2
      have f2 := frozen_of_row _ _ 2 _ _ hq2
      have s0 := crow 0 (Value.slice (some ad) (l44.map C.tr44).length c) HS2.out
      have s1 := crow 1 (Value.int .i64 (i : Int)) HS2.out
      rw [List.length_map] at s0
      have b1 : decide ((i : Int) < (l44.length : Int)) = true := decide_eq_true (by omega)
      have b2 : (0 : Int) ≤ (i : Int) := by omega
      have b3 : (i : Int) < (l44.length : Int) := by omega
      dsimp only
      go_wp2_with fail
      go_region
      go_wp2_with fail
      refine bodyPost_ret (results148 (s3d hq2 _ _ _) _ rfl rfl rfl) rfl ?_
      exact ⟨(ch_far3 HCH2.out (by omega) (by omega) _ _ _).drewN 1, by decide, ⟨#[]⟩, ⟨#[]⟩, none, 0, 0, rfl⟩
end Go.Proofs.YtknfpggiigncpaaGreatDoor.T
