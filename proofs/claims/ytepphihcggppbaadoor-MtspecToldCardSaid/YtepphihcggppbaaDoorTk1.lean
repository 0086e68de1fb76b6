/- mtspec.Table's put: a table taken among the parts of the group, or of the root: walked by hand. -/
import Derived.Test.YtepphihcggppbaaDoorBx
import Derived.Lib.Hide
import Derived.Deep.RegionLaw
import Derived.RegionTactic
set_option linter.unusedVariables false
set_option linter.unusedSimpArgs false
namespace Go.Proofs.YtepphihcggppbaaDoor.A
open Go.RowKit Go.Proofs.YtepphihcggppbaaDoorW.PrintWords Go.Proofs.YtepphihcggppbaaDoorW.PrintLast Go.Proofs.YtepphihcggppbaaDoorW.PrintMore

/-- What a put leaves: all but the box and the row that it grows. -/
def Fr (W W' : World) (g : Nat) (v : Value) : Prop := W.heap.size ≤ W'.heap.size ∧ ∀ k, k < W.heap.size → k ≠ g → some k ≠ v.ownBlock → W'.heap[k]? = W.heap[k]?
def snocT (t s : S24) : S24 := ⟨t.f0, t.f1, t.f2, t.f3, t.f4 ++ [s], t.f5⟩
theorem sz24i : (Tryd.prog.info? 24).map (·.size) = some 6 := by kernel_rfl
theorem set_last {α : Type} (ks : List α) (a v : α) : (ks ++ [a]).set ks.length v = ks ++ [v] := by
  rw [List.set_append_right _ _ (Nat.le_refl _), Nat.sub_self]
  rfl
def segS (s : S24) (Ac : Option Addr) (c : Nat) : List Value := [.string s.f0, .int .i64 s.f1, .int .i64 s.f2, .string s.f3, .slice Ac s.f4.length c, .bool s.f5]
theorem six_fin {W : World} {base g n cap : Nat} {ok C : Nat → Prop} {kids : List S24} {s z : S24} {Ac : Option Addr} {c : Nat} (h : k24.R 24 W base ok (.slice (some ⟨g, 0, none⟩) (n + 1) cap) (kids ++ [z])) (hn : kids.length = n)
    (hC : k24.R 24 W base C (.slice Ac s.f4.length c) s.f4) (hk : ∀ k, C k → ok k ∧ k ≠ g) :
    k24.R 24 (W.setCells g (n * 6) (segS s Ac c)) base ok (.slice (some ⟨g, 0, none⟩) (n + 1) cap) (kids ++ [s]) ∧ W.grownBy (W.setCells g (n * 6) (segS s Ac c)) (some g) := by
  obtain ⟨cc, hcl, hcM, hcc, hcf⟩ := Kd.R_elem h z24 (n : Int) (Int.natCast_nonneg _) (by rw [Int.natCast_add]; exact Int.lt_succ _)
  have h6 : k24.sz = 6 := rfl
  have := Kd.R_seg h (n : Int) (Int.natCast_nonneg _) (by rw [Int.natCast_add]; exact Int.lt_succ _) (seg := segS s Ac c) (j := 0) hcl hcc (by rw [h6]; exact Nat.le_refl 6) (x' := s) (okp := C)
    (by rw [List.drop_of_length_le (by rw [hcl]; exact Nat.le_refl 6)]; exact k24_mkM _ _ _ s hC) hk
  rw [Int.toNat_natCast, ← hn, set_last, hn] at this
  exact this
/-- Behind the append of an empty table: what the walk wants to know. -/
structure After (w0 w1 w5 : World) (gk gt g5 c5 : Nat) (tg s : S24) (At : Option Addr) (ct : Nat) (Ac : Option Addr) (c : Nat) (T C : Nat → Prop) : Prop where
  hR : k24.R 24 w5 w0.heap.size (fun k => T k ∨ C k ∨ gk ≤ k) (.slice (some ⟨g5, 0, none⟩) (tg.f4.length + 1) c5) (tg.f4 ++ [z24])
  hC : k24.R 24 w5 w0.heap.size C (.slice Ac s.f4.length c) s.f4
  hk : ∀ k, C k → (T k ∨ C k ∨ gk ≤ k) ∧ k ≠ g5
  hT : Sbox w5 gt tg (.slice At tg.f4.length ct)
  hne : gt ≠ g5
  hB : Below w0.heap.size w0 w5
  hs : w1.heap.size ≤ w5.heap.size
  hfr : ∀ k, k < gk → some k ≠ (Value.slice At tg.f4.length ct).ownBlock → w5.heap[k]? = w1.heap[k]?
  hg5 : (Value.slice At tg.f4.length ct).ownBlock = some g5 ∨ gk ≤ g5
theorem After.facts {w0 w1 w5 : World} {gk gt g5 c5 : Nat} {tg s : S24} {At : Option Addr} {ct : Nat} {Ac : Option Addr} {c : Nat} {T C : Nat → Prop} (h : After w0 w1 w5 gk gt g5 c5 tg s At ct Ac c T C) :
    w5.cell? ⟨gt, 4, none⟩ = some (.slice At tg.f4.length ct) ∧ w5.frozen? ⟨gt, 4, none⟩ = false ∧ gt ≠ g5 ∧
    w5.cell? ⟨g5, tg.f4.length * 6, none⟩ = some (.string ⟨#[]⟩) ∧ w5.cell? ⟨g5, tg.f4.length * 6 + 1, none⟩ = some (.int .i64 0) ∧ w5.cell? ⟨g5, tg.f4.length * 6 + 2, none⟩ = some (.int .i64 0) ∧ w5.cell? ⟨g5, tg.f4.length * 6 + 3, none⟩ = some (.string ⟨#[]⟩) ∧ (∃ u, w5.cell? ⟨g5, tg.f4.length * 6 + 4, none⟩ = some u) ∧ w5.cell? ⟨g5, tg.f4.length * 6 + 5, none⟩ = some (.bool false) ∧
    w5.frozen? ⟨g5, tg.f4.length * 6, none⟩ = false ∧ w5.frozen? ⟨g5, tg.f4.length * 6 + 1, none⟩ = false ∧ w5.frozen? ⟨g5, tg.f4.length * 6 + 2, none⟩ = false ∧ w5.frozen? ⟨g5, tg.f4.length * 6 + 3, none⟩ = false ∧ w5.frozen? ⟨g5, tg.f4.length * 6 + 4, none⟩ = false ∧ w5.frozen? ⟨g5, tg.f4.length * 6 + 5, none⟩ = false := by
  obtain ⟨cc, hcl, hcM, hcc, hcf⟩ := Kd.R_elem h.hR z24 (tg.f4.length : Int) (Int.natCast_nonneg _) (by rw [Int.natCast_add]; exact Int.lt_succ _)
  rw [Int.toNat_natCast] at hcM hcc hcf
  rw [show (tg.f4 ++ [z24]).getD tg.f4.length z24 = z24 by simp] at hcM
  obtain ⟨v4, rfl, -⟩ := k24_openM hcM
  exact ⟨h.hT.cells.2.2.2.2.1, h.hT.frozen.2.2.2.2.1, h.hne, hcc 0 _ rfl, hcc 1 _ rfl, hcc 2 _ rfl, hcc 3 _ rfl, ⟨v4, hcc 4 _ rfl⟩, hcc 5 _ rfl, hcf 0, hcf 1, hcf 2, hcf 3, hcf 4, hcf 5⟩
theorem after_app {w0 w1 w5 : World} {gk gt : Nat} {tg s : S24} {At : Option Addr} {ct : Nat} {Ac : Option Addr} {c : Nat} {T C : Nat → Prop} {v5 : Value} (hA5 : k24.R 24 w5 w0.heap.size (fun k => T k ∨ C k ∨ gk ≤ k) v5 (tg.f4 ++ [z24])) (hb5 : Below w0.heap.size w0 w5)
    (hg5 : w1.drew.grownBy w5 (Value.slice At tg.f4.length ct).ownBlock) (hat5 : v5.ownBlock = (Value.slice At tg.f4.length ct).ownBlock ∨ ∃ b, v5.ownBlock = some b ∧ w1.drew.heap.size ≤ b) (hF : True) (hW1 : w1.heap.size = gk + 1)
    (hT : Sbox w1 gt tg (.slice At tg.f4.length ct)) (hRT : k24.R 24 w1 w0.heap.size T (.slice At tg.f4.length ct) tg.f4) (hRC : k24.R 24 w1 w0.heap.size C (.slice Ac s.f4.length c) s.f4) (hdis : ∀ k, C k → ¬ T k) (hgT : ∀ k, T k → k ≠ gt) (hgC : ∀ k, C k → k ≠ gt ∧ k < gk) (hlt : gt < gk) :
    ∃ g5 c5, v5 = .slice (some ⟨g5, 0, none⟩) (tg.f4.length + 1) c5 ∧ After w0 w1 w5 gk gt g5 c5 tg s At ct Ac c T C := by
  obtain ⟨g5, c5, hv5, hg5b, hg5l, cells5, hh5⟩ := Kd.R_form hA5 (by simp)
  rw [show (tg.f4 ++ [z24]).length = tg.f4.length + 1 by simp] at hv5
  subst hv5
  have hat : (Value.slice At tg.f4.length ct).ownBlock = some g5 ∨ gk + 1 ≤ g5 := by
    rcases hat5 with h | ⟨q, h, hq⟩
    · exact .inl (h ▸ rfl)
    · have e : q = g5 := by cases h; rfl
      have hq' : w1.heap.size ≤ q := hq
      exact .inr (by omega)
  have hne : some gt ≠ (Value.slice At tg.f4.length ct).ownBlock := Kd.R_away hRT hgT
  have hgx : gt ≠ g5 := by
    intro e
    rcases hat with h | h
    · exact hne (by rw [h, e])
    · omega
  have hdr : ∀ k : Nat, w1.drew.heap[k]? = w1.heap[k]? := fun _ => rfl
  refine ⟨g5, c5, rfl, hA5, Kd.R_step hRC (fun k hk hlt' => (hg5.block k hlt' (fun e => hdis k hk (hRT.1 k e.symm))).trans (hdr k)), ?_, ((hg5.block gt hT.lt hne).trans (hdr gt)).trans hT, hgx, hb5, hg5.size, fun k hk h2 => (hg5.block k (by show k < w1.heap.size; omega) h2).trans (hdr k), hat.imp id (fun h => by omega)⟩
  intro k hk
  refine ⟨.inr (.inl hk), fun e => ?_⟩
  rcases hat with h | h
  · exact hdis k hk (hRT.1 k (by rw [h, e]))
  · have := (hgC k hk).2
    omega
/-- What stands when the put is over. -/
def Done (w0 W W' : World) (gt : Nat) (tg s : S24) (tv : Value) (T C : Nat → Prop) : Prop :=
  ∃ tv', Sbox W' gt (snocT tg s) tv' ∧ k24.R 24 W' w0.heap.size (fun k => T k ∨ C k ∨ W.heap.size ≤ k) tv' (tg.f4 ++ [s]) ∧ Below w0.heap.size w0 W' ∧ Fr W W' gt tv
theorem After.finA {w0 W w1 w5 : World} {gk gt g5 c5 : Nat} {tg s : S24} {At : Option Addr} {ct : Nat} {Ac : Option Addr} {c : Nat} {T C : Nat → Prop} (h : After w0 w1 w5 gk gt g5 c5 tg s At ct Ac c T C) (hgk : W.heap.size = gk) (hw1 : ∀ k, k < gk → w1.heap[k]? = W.heap[k]?) (hs1 : w1.heap.size = gk + 1)
    (hgT : ∀ k, T k → k ≠ gt) (hgC : ∀ k, C k → k ≠ gt ∧ k < gk) (hlt : gt < gk) (hn : w0.heap.size ≤ gt) :
    Done w0 W ((w5.setCells g5 (tg.f4.length * 6) (segS s Ac c)).setCell ⟨gt, 4, none⟩ (.slice (some ⟨g5, 0, none⟩) (tg.f4.length + 1) c5)) gt tg s (.slice At tg.f4.length ct) T C := by
  obtain ⟨hA, hg⟩ := six_fin h.hR rfl h.hC h.hk
  subst hgk
  have hb : w0.heap.size ≤ g5 := Kd.R_base h.hR _ rfl
  have h8 : Sbox (w5.setCells g5 (tg.f4.length * 6) (segS s Ac c)) gt tg (.slice At tg.f4.length ct) := (hg.block gt h.hT.lt (fun e => h.hne (Option.some.inj e))).trans h.hT
  refine ⟨_, blk_put h8 4 _ rfl, Kd.R_far hA (fun k hk => ?_) _, ((h.hB.grown hg h.hB.size (fun k e => by cases e; exact hb))).setCell (p := ⟨gt, 4, none⟩) hn _, ?_, ?_⟩
  · show k ≠ gt
    rcases hk with x | x | x
    · exact hgT k x
    · exact (hgC k x).1
    · omega
  · have h1 := h.hs
    have h2 := hg.size
    have h3 : ((w5.setCells g5 (tg.f4.length * 6) (segS s Ac c)).setCell ⟨gt, 4, none⟩ (.slice (some ⟨g5, 0, none⟩) (tg.f4.length + 1) c5)).heap.size = (w5.setCells g5 (tg.f4.length * 6) (segS s Ac c)).heap.size := by simp [World.setCell]
    omega
  · intro k hk h1 h2
    have h5 := h.hs
    refine (Below.heap_setCell _ ⟨gt, 4, none⟩ _ k h1).trans ((hg.block k (by omega) (fun e => ?_)).trans ((h.hfr k hk h2).trans (hw1 k hk)))
    have e' := Option.some.inj e
    rcases h.hg5 with x | x
    · exact h2 (by rw [x, e'])
    · omega
theorem After.finB {w0 W w1 w5 : World} {gk gt g5 c5 : Nat} {tg s : S24} {At : Option Addr} {ct : Nat} {Ac : Option Addr} {c : Nat} {T C : Nat → Prop} (h : After w0 w1 w5 gk gt g5 c5 tg s At ct Ac c T C) (hgk : W.heap.size = gk) (hw1 : ∀ k, k < gk → w1.heap[k]? = W.heap[k]?) (hs1 : w1.heap.size = gk + 1)
    (hgT : ∀ k, T k → k ≠ gt) (hgC : ∀ k, C k → k ≠ gt ∧ k < gk) (hlt : gt < gk) (hn : w0.heap.size ≤ gt) :
    Done w0 W ((w5.setCell ⟨gt, 4, none⟩ (.slice (some ⟨g5, 0, none⟩) (tg.f4.length + 1) c5)).setCells g5 (tg.f4.length * 6) (segS s Ac c)) gt tg s (.slice At tg.f4.length ct) T C := by
  have hokg : ∀ k, (T k ∨ C k ∨ gk ≤ k) → k ≠ gt := by
    intro k hk
    rcases hk with x | x | x
    · exact hgT k x
    · exact (hgC k x).1
    · omega
  have hR := Kd.R_far (p := ⟨gt, 4, none⟩) h.hR hokg (.slice (some ⟨g5, 0, none⟩) (tg.f4.length + 1) c5)
  have hC := Kd.R_far (p := ⟨gt, 4, none⟩) h.hC (fun k hk => (hgC k hk).1) (.slice (some ⟨g5, 0, none⟩) (tg.f4.length + 1) c5)
  obtain ⟨hA, hg⟩ := six_fin hR rfl hC h.hk
  subst hgk
  have hb : w0.heap.size ≤ g5 := Kd.R_base h.hR _ rfl
  have hB := h.hB.setCell (p := ⟨gt, 4, none⟩) hn (.slice (some ⟨g5, 0, none⟩) (tg.f4.length + 1) c5)
  have h7 : Sbox (w5.setCell ⟨gt, 4, none⟩ (.slice (some ⟨g5, 0, none⟩) (tg.f4.length + 1) c5)) gt (snocT tg s) (.slice (some ⟨g5, 0, none⟩) (tg.f4.length + 1) c5) := blk_put h.hT 4 _ rfl
  have hsz : (w5.setCell ⟨gt, 4, none⟩ (.slice (some ⟨g5, 0, none⟩) (tg.f4.length + 1) c5)).heap.size = w5.heap.size := by simp [World.setCell]
  refine ⟨_, (hg.block gt h7.lt (fun e => h.hne (Option.some.inj e))).trans h7, hA, hB.grown hg hB.size (fun k e => by cases e; exact hb), ?_, ?_⟩
  · have h1 := h.hs
    have h2 := hg.size
    omega
  · intro k hk h1 h2
    have h5 := h.hs
    refine (hg.block k (by omega) (fun e => ?_)).trans ((Below.heap_setCell _ ⟨gt, 4, none⟩ _ k h1).trans ((h.hfr k hk h2).trans (hw1 k hk)))
    have e' := Option.some.inj e
    rcases h.hg5 with x | x
    · exact h2 (by rw [x, e'])
    · omega
theorem After.doneA {w0 W w1 w5 : World} {gk gt g5 c5 : Nat} {tg s : S24} {At : Option Addr} {ct : Nat} {Ac : Option Addr} {c : Nat} {T C : Nat → Prop} (h : After w0 w1 w5 gk gt g5 c5 tg s At ct Ac c T C) (hgk : W.heap.size = gk) (hF : Below W.heap.size W w1) (hs1 : w1.heap.size = gk + 1) (hgT : ∀ k, T k → k ≠ gt) (hgC : ∀ k, C k → k ≠ gt ∧ k < gk) (hlt : gt < gk) (hn : w0.heap.size ≤ gt) :
    Done w0 W (((((((w5.setCell ⟨g5, tg.f4.length * 6, none⟩ (.string s.f0)).setCell ⟨g5, tg.f4.length * 6 + 1, none⟩ (.int .i64 s.f1)).setCell ⟨g5, tg.f4.length * 6 + 2, none⟩ (.int .i64 s.f2)).setCell ⟨g5, tg.f4.length * 6 + 3, none⟩ (.string s.f3)).setCell ⟨g5, tg.f4.length * 6 + 4, none⟩ (.slice Ac s.f4.length c)).setCell ⟨g5, tg.f4.length * 6 + 5, none⟩ (.bool s.f5)).setCell ⟨gt, 4, none⟩ (.slice (some ⟨g5, 0, none⟩) (tg.f4.length + 1) c5)) gt tg s (.slice At tg.f4.length ct) T C := h.finA hgk (fun k hk => hF.block k (by omega)) hs1 hgT hgC hlt hn
theorem After.doneB {w0 W w1 w5 : World} {gk gt g5 c5 : Nat} {tg s : S24} {At : Option Addr} {ct : Nat} {Ac : Option Addr} {c : Nat} {T C : Nat → Prop} (h : After w0 w1 w5 gk gt g5 c5 tg s At ct Ac c T C) (hgk : W.heap.size = gk) (hF : Below W.heap.size W w1) (hs1 : w1.heap.size = gk + 1) (hgT : ∀ k, T k → k ≠ gt) (hgC : ∀ k, C k → k ≠ gt ∧ k < gk) (hlt : gt < gk) (hn : w0.heap.size ≤ gt) :
    Done w0 W (((((((w5.setCell ⟨gt, 4, none⟩ (.slice (some ⟨g5, 0, none⟩) (tg.f4.length + 1) c5)).setCell ⟨g5, tg.f4.length * 6, none⟩ (.string s.f0)).setCell ⟨g5, tg.f4.length * 6 + 1, none⟩ (.int .i64 s.f1)).setCell ⟨g5, tg.f4.length * 6 + 2, none⟩ (.int .i64 s.f2)).setCell ⟨g5, tg.f4.length * 6 + 3, none⟩ (.string s.f3)).setCell ⟨g5, tg.f4.length * 6 + 4, none⟩ (.slice Ac s.f4.length c)).setCell ⟨g5, tg.f4.length * 6 + 5, none⟩ (.bool s.f5)) gt tg s (.slice At tg.f4.length ct) T C := h.finB hgk (fun k hk => hF.block k (by omega)) hs1 hgT hgC hlt hn
theorem cellB' {W W' : World} (hb : Below W.heap.size W W') {a : Addr} {v : Value} (h : W.cell? a = some v) : W'.cell? a = some v := (hb.cell (World.block_lt_of_cell? W _ h)).trans h
set_option maxRecDepth 100000 in
set_option maxHeartbeats 4000000 in
theorem put_true (w0 W : World) (gr gg go : Nat) (s tg : S24) (Ac : Option Addr) (c : Nat) (tv : Value) (T C : Nat → Prop) (hT : Sbox W gg tg tv) (ho : W.cell? ⟨go, 0, none⟩ = some (.bool true)) (RT : k24.R 24 W w0.heap.size T tv tg.f4)
    (RC : k24.R 24 W w0.heap.size C (.slice Ac s.f4.length c) s.f4) (hdis : ∀ k, C k → ¬ T k) (hgT : ∀ k, T k → k ≠ gg) (hgC : ∀ k, C k → k ≠ gg ∧ k < W.heap.size) (hl : tg.f4.length ≤ 1000) (hB : Below w0.heap.size w0 W) (hn : w0.heap.size ≤ gg) :
    Calls Tryd.prog 24 #[specV s (.slice Ac s.f4.length c), .pointer (some ⟨go, 0, none⟩), .pointer (some ⟨gg, 0, none⟩), .pointer (some ⟨gr, 0, none⟩)] W fun e w' => (∃ v, e = .returned v) ∧
      Done w0 W w' gg tg s tv T C := by
  have hu24 := Tryd.underlying24
  have hba := below_alloc (Below.refl W.heap.size W) (.cells (specC s (.slice Ac s.f4.length c)) 24)
  have hk9 : Sbox (W.alloc (.cells (specC s (.slice Ac s.f4.length c)) 24)) W.heap.size s (.slice Ac s.f4.length c) := Sbox.new _ _ _
  have HT := Lib.hid (hT.low hba hT.lt)
  have HRT := Lib.hid (Kd.R_below RT hba)
  have HRC := Lib.hid (Kd.R_below RC hba)
  have HB := Lib.hid (hB.trans (hba.mono hB.size))
  have HF := Lib.hid hba
  have hw1 : (W.alloc (.cells (specC s (.slice Ac s.f4.length c)) 24)).heap.size = W.heap.size + 1 := World.size_alloc _ _
  have HW1 := Lib.hid hw1
  have ho1 := cellB' hba ho
  have HTlt := Lib.hid hT.lt
  have HTl := Lib.hid (fun k (e : tv.ownBlock = some k) => Kd.R_lt RT k e)
  obtain ⟨At, ct, rfl⟩ := Kd.R_slice RT
  clear hT RT RC hba hB ho hw1
  unfold specV
  go_enter Tryd.func24, Tryd.ntmps24
  go_upto_region 1 with fail
  unfold specC at hk9 HT HRT HRC HB HF ho1 HW1
  generalize hgk : W.heap.size = gk at hk9 HW1 HTlt hgC ⊢
  generalize W.alloc _ = w1 at hk9 HT HRT HRC HB HF ho1 HW1 ⊢
  have HK9 := Lib.hid (show Sbox w1 gk s (.slice Ac s.f4.length c) from hk9)
  clear hk9
  obtain ⟨q0, q1, q2, q3, q4, q5⟩ := HK9.out.cells
  have c4 := HT.out.cells.2.2.2.2.1
  have z4 := HT.out.frozen.2.2.2.2.1
  go_wp2_with fail
  have hlk : gk < w1.heap.size := by have := HW1.out; omega
  have hlg : gg < w1.heap.size := HT.out.lt
  have hwz : (w1.alloc (.cells #[.string ⟨#[]⟩, .int .i64 0, .int .i64 0, .string ⟨#[]⟩, .slice none 0 0, .bool false] 24)).heap.size = w1.heap.size + 1 := World.size_alloc _ _
  have hbz := below_alloc (Below.refl w1.heap.size w1) (.cells #[.string ⟨#[]⟩, .int .i64 0, .int .i64 0, .string ⟨#[]⟩, .slice none 0 0, .bool false] 24)
  have u0 := cellB' hbz q0
  have u1 := cellB' hbz q1
  have u2 := cellB' hbz q2
  have u3 := cellB' hbz q3
  have u4 := cellB' hbz q4
  have u5 := cellB' hbz q5
  have t4 := cellB' hbz c4
  clear hbz hwz
  have hz1 : (0 : Int) ≤ (tg.f4.length : Int) := Int.natCast_nonneg _
  have hz2 : (tg.f4.length : Int) < (tg.f4.length : Int) + 1 := Int.lt_succ _
  go_region_law (refine Kd.R_append_step k24 (w0 := w0) (W := w1.drew) w0.heap.size (by rfl) (.tmp 7) (.tmp 10) 22 24 (.agg #[.string ⟨#[]⟩, .int .i64 0, .int .i64 0, .string ⟨#[]⟩, .slice none 0 0, .bool false]) 80 (by rfl) und22 info24 rfl (by decide) (by decide) (.slice At tg.f4.length ct) tg.f4 z24 [.string ⟨#[]⟩, .int .i64 0, .int .i64 0, .string ⟨#[]⟩, .slice none 0 0, .bool false] (fun k => T k ∨ C k ∨ gk ≤ k) (fun _ => False) (by simp [Act.eval, Act.put]) (by simp [Act.eval, Act.put]) (k24_mkM _ _ _ z24 (Kd.R_nil _ _ _ _ _)) (fun k hk => hk.elim) (fun k hk => .inr (.inr (by have := HW1.out; have hk' : w1.heap.size ≤ k := hk; omega))) (Kd.R_mono (Kd.R_below HRT.out (below_drew (Below.refl _ _))) (fun k hk => .inl hk)) (HB.out.trans (below_drew (Below.refl _ _))) HB.out.size (by omega) ?_; intro v5 w5 hA5 hb5 hg5 hat5; obtain ⟨g5, c5, hv5, HQ⟩ := after_app (s := s) hA5 hb5 hg5 hat5 trivial HW1.out HT.out HRT.out HRC.out hdis hgT hgC HTlt.out; subst hv5; obtain ⟨d4, y4, hgx, e0, e1, e2, e3, ⟨u7, e4⟩, e5, x0, x1, x2, x3, x4, x5⟩ := HQ.facts; have HQ2 := Lib.hid HQ; clear HQ hA5 hb5 hg5 hat5)
  all_goals (go_wp2_with fail; go_end0; refine ⟨⟨_, rfl⟩, ?_⟩; first | (with_reducible exact HQ2.out.doneA hgk HF.out HW1.out hgT hgC HTlt.out hn) | (with_reducible exact HQ2.out.doneB hgk HF.out HW1.out hgT hgC HTlt.out hn))
set_option maxRecDepth 100000 in
set_option maxHeartbeats 4000000 in
theorem put_false (w0 W : World) (gr gg go : Nat) (s tg : S24) (Ac : Option Addr) (c : Nat) (tv : Value) (T C : Nat → Prop) (hT : Sbox W gr tg tv) (ho : W.cell? ⟨go, 0, none⟩ = some (.bool false)) (RT : k24.R 24 W w0.heap.size T tv tg.f4)
    (RC : k24.R 24 W w0.heap.size C (.slice Ac s.f4.length c) s.f4) (hdis : ∀ k, C k → ¬ T k) (hgT : ∀ k, T k → k ≠ gr) (hgC : ∀ k, C k → k ≠ gr ∧ k < W.heap.size) (hl : tg.f4.length ≤ 1000) (hB : Below w0.heap.size w0 W) (hn : w0.heap.size ≤ gr) :
    Calls Tryd.prog 24 #[specV s (.slice Ac s.f4.length c), .pointer (some ⟨go, 0, none⟩), .pointer (some ⟨gg, 0, none⟩), .pointer (some ⟨gr, 0, none⟩)] W fun e w' => (∃ v, e = .returned v) ∧
      Done w0 W w' gr tg s tv T C := by
  have hu24 := Tryd.underlying24
  have hba := below_alloc (Below.refl W.heap.size W) (.cells (specC s (.slice Ac s.f4.length c)) 24)
  have hk9 : Sbox (W.alloc (.cells (specC s (.slice Ac s.f4.length c)) 24)) W.heap.size s (.slice Ac s.f4.length c) := Sbox.new _ _ _
  have HT := Lib.hid (hT.low hba hT.lt)
  have HRT := Lib.hid (Kd.R_below RT hba)
  have HRC := Lib.hid (Kd.R_below RC hba)
  have HB := Lib.hid (hB.trans (hba.mono hB.size))
  have HF := Lib.hid hba
  have hw1 : (W.alloc (.cells (specC s (.slice Ac s.f4.length c)) 24)).heap.size = W.heap.size + 1 := World.size_alloc _ _
  have HW1 := Lib.hid hw1
  have ho1 := cellB' hba ho
  have HTlt := Lib.hid hT.lt
  have HTl := Lib.hid (fun k (e : tv.ownBlock = some k) => Kd.R_lt RT k e)
  obtain ⟨At, ct, rfl⟩ := Kd.R_slice RT
  clear hT RT RC hba hB ho hw1
  unfold specV
  go_enter Tryd.func24, Tryd.ntmps24
  go_upto_region 1 with fail
  unfold specC at hk9 HT HRT HRC HB HF ho1 HW1
  generalize hgk : W.heap.size = gk at hk9 HW1 HTlt hgC ⊢
  generalize W.alloc _ = w1 at hk9 HT HRT HRC HB HF ho1 HW1 ⊢
  have HK9 := Lib.hid (show Sbox w1 gk s (.slice Ac s.f4.length c) from hk9)
  clear hk9
  obtain ⟨q0, q1, q2, q3, q4, q5⟩ := HK9.out.cells
  have c4 := HT.out.cells.2.2.2.2.1
  have z4 := HT.out.frozen.2.2.2.2.1
  go_wp2_with fail
  have hlk : gk < w1.heap.size := by have := HW1.out; omega
  have hlg : gr < w1.heap.size := HT.out.lt
  have hwz : (w1.alloc (.cells #[.string ⟨#[]⟩, .int .i64 0, .int .i64 0, .string ⟨#[]⟩, .slice none 0 0, .bool false] 24)).heap.size = w1.heap.size + 1 := World.size_alloc _ _
  have hbz := below_alloc (Below.refl w1.heap.size w1) (.cells #[.string ⟨#[]⟩, .int .i64 0, .int .i64 0, .string ⟨#[]⟩, .slice none 0 0, .bool false] 24)
  have u0 := cellB' hbz q0
  have u1 := cellB' hbz q1
  have u2 := cellB' hbz q2
  have u3 := cellB' hbz q3
  have u4 := cellB' hbz q4
  have u5 := cellB' hbz q5
  have t4 := cellB' hbz c4
  clear hbz hwz
  have hz1 : (0 : Int) ≤ (tg.f4.length : Int) := Int.natCast_nonneg _
  have hz2 : (tg.f4.length : Int) < (tg.f4.length : Int) + 1 := Int.lt_succ _
  go_region_law (refine Kd.R_append_step k24 (w0 := w0) (W := w1.drew) w0.heap.size (by rfl) (.tmp 15) (.tmp 18) 22 24 (.agg #[.string ⟨#[]⟩, .int .i64 0, .int .i64 0, .string ⟨#[]⟩, .slice none 0 0, .bool false]) 80 (by rfl) und22 info24 rfl (by decide) (by decide) (.slice At tg.f4.length ct) tg.f4 z24 [.string ⟨#[]⟩, .int .i64 0, .int .i64 0, .string ⟨#[]⟩, .slice none 0 0, .bool false] (fun k => T k ∨ C k ∨ gk ≤ k) (fun _ => False) (by simp [Act.eval, Act.put]) (by simp [Act.eval, Act.put]) (k24_mkM _ _ _ z24 (Kd.R_nil _ _ _ _ _)) (fun k hk => hk.elim) (fun k hk => .inr (.inr (by have := HW1.out; have hk' : w1.heap.size ≤ k := hk; omega))) (Kd.R_mono (Kd.R_below HRT.out (below_drew (Below.refl _ _))) (fun k hk => .inl hk)) (HB.out.trans (below_drew (Below.refl _ _))) HB.out.size (by omega) ?_; intro v5 w5 hA5 hb5 hg5 hat5; obtain ⟨g5, c5, hv5, HQ⟩ := after_app (s := s) hA5 hb5 hg5 hat5 trivial HW1.out HT.out HRT.out HRC.out hdis hgT hgC HTlt.out; subst hv5; obtain ⟨d4, y4, hgx, e0, e1, e2, e3, ⟨u7, e4⟩, e5, x0, x1, x2, x3, x4, x5⟩ := HQ.facts; have HQ2 := Lib.hid HQ; clear HQ hA5 hb5 hg5 hat5)
  all_goals (go_wp2_with fail; go_end0; refine ⟨⟨_, rfl⟩, ?_⟩; first | (with_reducible exact HQ2.out.doneA hgk HF.out HW1.out hgT hgC HTlt.out hn) | (with_reducible exact HQ2.out.doneB hgk HF.out HW1.out hgT hgC HTlt.out hn))
end Go.Proofs.YtepphihcggppbaaDoor.A
