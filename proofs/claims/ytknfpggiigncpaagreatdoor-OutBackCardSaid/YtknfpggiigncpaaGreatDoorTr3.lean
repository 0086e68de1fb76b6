/- tree's close: lemmas. -/
import Derived.Test.YtknfpggiigncpaaGreatDoorTr2
set_option linter.unusedVariables false
set_option linter.unusedSimpArgs false
namespace Go.Proofs.YtknfpggiigncpaaGreatDoor.T
open Go.RowKit P E YtknfpggiigncpaaGreatDoorW.PrintLast YtknfpggiigncpaaGreatDoorW.PrintMore
open YtknfpggiigncpaaGreatDoorW.PrintWords
def valT (nd : Nd) : S24 := ⟨nd.nm, if nd.hask then nd.tx else nd.said, nd.ks⟩
def closeT (S : Bst) (name : ByteArray) : Bst × Int :=
 match S.stack.getLast? with
 | none => (S, 23)
 | some nd =>
  if nd.name = name then
   match S.stack.dropLast.getLast? with
   | none => ({ S with stack := [], root := valT nd, done := true }, 0)
   | some up => ({ S with stack := S.stack.dropLast.set (S.stack.length - 2) { up with ks := up.ks ++ [valT nd] } }, 0)
  else (S, 23)
theorem Rep.pop {W : World} {n0 b : Nat} {lab : Nat → Nat} {S : Bst} {gs : List Nat} {r k c : Nat} {rv : Value} (h : Rep W n0 b lab S gs (.slice (some ⟨r, 0, none⟩) (k + 1) c) rv) (hk : gs.length = k + 1) :
  Rep (W.setCell ⟨b, 0, none⟩ (.slice (some ⟨r, 0, none⟩) k c)) n0 b lab { S with stack := S.stack.dropLast } gs.dropLast (.slice (some ⟨r, 0, none⟩) k c) rv := by
 have hm := But.set W b 0 (.slice (some ⟨r, 0, none⟩) k c)
 have hl : gs.dropLast.length = k := by rw [List.length_dropLast]; omega
 have hrow := h.row
 rw [hk] at hrow
 refine ⟨h.hb, by rw [blk_set h.box]; rfl, ?_, by rw [List.length_dropLast, List.length_dropLast, h.len], h.apart.sublist (List.dropLast_sublist gs), ?_, R_but h.root h.box (by decide) hm⟩
 ·
  rw [hl]
  have := own_take hrow (show k ≤ k + 1 by omega)
  rw [Nat.mul_one, ← List.map_take, ← show gs.dropLast = gs.take k by rw [List.dropLast_eq_take]; congr 1; omega] at this
  exact own_but this h.box (by decide) hm
 ·
  intro i g nd q1 q2
  have hi : i < k := by have := (List.getElem?_eq_some_iff.1 q1).1; omega
  have q1' : gs[i]? = some g := by rw [← q1, List.getElem?_dropLast]; rw [if_pos (by omega)]
  have q2' : S.stack[i]? = some nd := by rw [← q2]; show _ = S.stack.dropLast[i]?; rw [List.getElem?_dropLast]; rw [if_pos (by have := h.len; omega)]
  have hN := h.nodes i g nd q1' q2'
  refine hN.but h.box (by decide) ?_ hm
  obtain ⟨_, kv, m, hh, _⟩ := hN
  exact blk_ne hh h.box (by decide)
theorem Rep.but {W W' : World} {n0 b : Nat} {lab : Nat → Nat} {S : Bst} {gs : List Nat} {sv rv : Value} (h : Rep W n0 b lab S gs sv rv) {x t : Nat} {cells : Array Value} (hx : W.heap[x]? = some (.cells cells t (0, 0))) (ht : t ≠ 24) (ht2 : t ≠ 192) (hb : b ≠ x) (hg : ∀ g ∈ gs, g ≠ x) (hm : But W W' x) : Rep W' n0 b lab S gs sv rv :=
 ⟨h.hb, (hm b (Array.getElem?_eq_some_iff.1 h.box).1 hb).trans h.box, own_but h.row hx (fun e => ht2 e.symm) hm, h.len, h.apart, fun i g nd q1 q2 => (h.nodes i g nd q1 q2).but hx ht (hg g (List.mem_of_getElem? q1)) hm, R_but h.root hx ht hm⟩
theorem last_not {gs : List Nat} {k g : Nat} (hn : gs.Nodup) (hk : gs.length = k + 1) (hg : gs[k]? = some g) : ∀ x ∈ gs.dropLast, x ≠ g := by
 intro x hx e
 subst e
 obtain ⟨i, hi⟩ := List.getElem?_of_mem hx
 have hil : i < k := by have := (List.getElem?_eq_some_iff.1 hi).1; rw [List.length_dropLast] at this; omega
 rw [List.getElem?_dropLast, if_pos (by omega)] at hi
 have := (List.getElem?_inj (by omega) hn).1 (hi.trans hg.symm)
 omega
theorem own_cells {W : World} {n0 e s n : Nat} {v : Value} {xs : List Value} (h : W.ownsRow n0 e s v n xs) (k : Nat) (hk : v.ownBlock = some k) : ∃ cells, W.heap[k]? = some (.cells cells e (0, 0)) := by
 obtain ⟨_, ⟨rfl, _⟩ | ⟨g, cap, cur, rfl, _, hh, _⟩⟩ := h
 ·
  cases hk
 ·
  cases hk
  exact ⟨cur, hh⟩
theorem Rep.mend {W W' : World} {n0 b : Nat} {lab : Nat → Nat} {S : Bst} {gs : List Nat} {sv rv : Value} (h : Rep W n0 b lab S gs sv rv) (i gu : Nat) (up : Nd) (hl : gs.length = i + 1) (hgu : gs[i]? = some gu) (hup : S.stack[i]? = some up)
  {vu : Value} {mu : Nat} (hh : W.heap[gu]? = some (.cells #[.string up.nm, .string up.tx, vu, .string up.name, .map (some mu), .string up.said, .bool up.hask] 195 (0, 0)))
  (hRu : k24.R 24 W n0 (fun k => lab k = i + 1) vu up.ks) (hall : ∀ k, k < W.heap.size → some k ≠ vu.ownBlock → k ≠ gu → W'.heap[k]? = W.heap[k]?) (ks' : List S24) (v1 : Value)
  (hh' : W'.heap[gu]? = some (.cells #[.string up.nm, .string up.tx, v1, .string up.name, .map (some mu), .string up.said, .bool up.hask] 195 (0, 0)))
  (hR1 : k24.R 24 W' n0 (fun k => lab k = i + 1 ∨ lab k = i + 2 ∨ W.heap.size ≤ k) v1 ks') :
  Rep W' n0 b (fun k => if lab k = i + 2 ∨ W.heap.size ≤ k then i + 1 else lab k) { S with stack := S.stack.set i { up with ks := ks' } } gs sv rv := by
 have hrow : ∀ k, vu.ownBlock = some k → lab k = i + 1 := by
  intro k hk
  by_cases hc : lab k = i + 1
  ·
   exact hc
  ·
   exact absurd hk.symm (Kd.R_away hRu (g := k) (fun q hq e => by subst e; exact hc hq))
 obtain ⟨inner, ho⟩ := Kd.R_own hRu
 have hcell : ∀ (x t : Nat) (cells : Array Value), W.heap[x]? = some (.cells cells t (0, 0)) → t ≠ 24 → some x ≠ vu.ownBlock := by
  intro x t cells hx ht e
  exact own_ne ho hx (fun e2 => ht e2.symm) e
 have hbg : b ≠ gu := blk_ne h.box hh (by decide)
 have hlt : ∀ {x : Nat} {o : Obj}, W.heap[x]? = some o → x < W.heap.size := fun hx => (Array.getElem?_eq_some_iff.1 hx).1
 have hmap : ∀ {m : Nat} {sp}, MapAt W n0 m sp → MapAt W' n0 m sp := by
  intro m sp hM
  obtain ⟨hM1, n, hM2, es, clock, hM3, hM4⟩ := hM
  refine ⟨hM1, n, hM2, es, clock, (hall m (hlt hM3) (fun e => ?_) (fun e => ?_)).trans hM3, hM4⟩
  ·
   obtain ⟨cells, hc⟩ := own_cells ho _ e.symm
   rw [hM3] at hc
   cases hc
  ·
   subst e
   rw [hM3] at hh
   cases hh
 have hother : ∀ (q : Nat) (v : Value) (xs : List S24), q ≤ i → k24.R 24 W n0 (fun k => lab k = q) v xs → k24.R 24 W' n0 (fun k => (if lab k = i + 2 ∨ W.heap.size ≤ k then i + 1 else lab k) = q) v xs := by
  intro q v xs hq hv
  refine Kd.R_mono (Kd.R_step (Kd.R_types (Kd.R_old hv (Below.refl _ _)) hh (fun x hx => by
   have : x = 24 := by
    have hE : (24 :: k24.E) = [24, 24] := rfl
    rw [hE] at hx
    simp at hx
    exact hx
   rw [this]; decide)) (fun k hk hl => hall k hl (fun e => ?_) hk.2)) (fun k hk => ?_)
  ·
   have := hrow k e.symm
   have := hk.1.1
   omega
  ·
   show (if lab k = i + 2 ∨ W.heap.size ≤ k then i + 1 else lab k) = q
   rw [if_neg (by have := hk.1.1; have := hk.1.2; omega)]
   exact hk.1.1
 refine ⟨h.hb, (hall b (hlt h.box) (hcell b _ _ h.box (by decide)) hbg).trans h.box, ?_, by simp [h.len], h.apart, ?_, hother 0 rv _ (Nat.zero_le _) h.root⟩
 ·
  refine own_move h.row (fun q hq => ?_)
  obtain ⟨cells, hc⟩ := own_cells h.row q hq
  exact hall q (hlt hc) (hcell q _ _ hc (by decide)) (blk_ne hc hh (by decide))
 ·
  intro i' g' nd2 h1 h2
  by_cases hii : i' = i
  ·
   subst hii
   obtain rfl : gu = g' := by rw [hgu] at h1; exact Option.some.inj h1
   have hlt' : i' < S.stack.length := (List.getElem?_eq_some_iff.1 hup).1
   rw [List.getElem?_set_self hlt'] at h2
   obtain rfl := Option.some.inj h2
   obtain ⟨n1, kv, m, hh2, hR, hM⟩ := h.nodes i' gu up hgu hup
   rw [hh] at hh2
   have hmm : mu = m := by
    injection hh2 with hh2
    injection hh2 with hh2
    simp at hh2
    exact hh2.2
   subst hmm
   refine ⟨n1, v1, mu, hh', Kd.R_mono hR1 (fun k hk => ?_), hmap hM⟩
   show (if lab k = i' + 2 ∨ W.heap.size ≤ k then i' + 1 else lab k) = i' + 1
   by_cases hc : lab k = i' + 2 ∨ W.heap.size ≤ k
   ·
    rw [if_pos hc]
   ·
    rw [if_neg hc]
    rcases hk with hk | hk
    ·
     exact hk
    ·
     exact absurd hk hc
  ·
   rw [List.getElem?_set_ne (fun e => hii e.symm)] at h2
   have hi' : i' < i := by have := (List.getElem?_eq_some_iff.1 h1).1; omega
   have hgg : g' ≠ gu := fun e => by
    subst e
    have l1 := (List.getElem?_eq_some_iff.1 h1).1
    have l2 := (List.getElem?_eq_some_iff.1 hgu).1
    exact hii ((List.getElem?_inj l1 h.apart).1 (h1.trans hgu.symm))
   obtain ⟨n1, kv, m, hh2, hR, hM⟩ := h.nodes i' g' nd2 h1 h2
   exact ⟨n1, kv, m, (hall g' (hlt hh2) (hcell g' _ _ hh2 (by decide)) hgg).trans hh2, hother (i' + 1) kv _ (by omega) hR, hmap hM⟩
theorem cellB {W W' : World} (hb : Below W.heap.size W W') {a : Addr} {v : Value} (h : W.cell? a = some v) : W'.cell? a = some v := (hb.cell (World.block_lt_of_cell? W _ h)).trans h
theorem cellG {W W' : World} {row : Option Nat} (hg : W.grownBy W' row) {a : Addr} {v : Value} (h : W.cell? a = some v) (hne : some a.block ≠ row) : W'.cell? a = some v := by
 have := hg.block a.block (World.block_lt_of_cell? W _ h) hne
 unfold World.cell? at h ⊢
 rw [this]
 exact h
def cl12T : Bool × List (List Nat × List Nat) := (true, [([], []), ([0], [0]), ([1], [1]), ([2], [2]), ([], []), ([4], [4]), ([3, 5], [3, 5]), ([6], [6]), ([], []), ([8], [8]), ([9], [9]), ([10], [10]), ([], []), ([12], [12]), ([11, 13], [11, 13]), ([14], [14]), ([15], [15]), ([16], [16]), ([17], [17]), ([18], [18]), ([], []), ([20], [20]), ([21], [21]), ([22], [22]), ([19], [19]), ([], []), ([19, 25, 0, 1, 2, 3, 4, 5, 6, 7, 8, 9, 10, 11, 12, 13, 14, 15, 16, 17, 18, 19, 20, 21, 22, 23, 24, 25], [19, 25]), ([7, 0, 1, 2, 3, 4, 5, 6, 7, 8, 9, 10, 11, 12, 13, 14, 15, 16, 17, 18, 19, 20, 21, 22, 23, 24, 25, 26], [7]), ([27, 0, 1, 2, 3, 4, 5, 6, 7, 8, 9, 10, 11, 12, 13, 14, 15, 16, 17, 18, 19, 20, 21, 22, 23, 24, 25, 26], [27]), ([28, 0, 1, 2, 3, 4, 5, 6, 7, 8, 9, 10, 11, 12, 13, 14, 15, 16, 17, 18, 19, 20, 21, 22, 23, 24, 25, 26], [28]), ([29, 26, 26, 0, 1, 2, 3, 4, 5, 6, 7, 8, 9, 10, 11, 12, 13, 14, 15, 16, 17, 18, 19, 20, 21, 22, 23, 24, 25, 26], [26, 29])])
def cl12B : List Nat := [0, 1, 3, 7, 0, 16, 63, 127, 0, 256, 768, 1792, 0, 4096, 16128, 32512, 65280, 130816, 261888, 524032, 0, 1048576, 3145728, 7340032, 1048320, 0, 67108863, 134217727, 268435455, 536870911, 1073741823]
theorem cl12tab : rtab .any (opsOf Tryz.f116 12) = cl12T := by kernel_rfl
theorem cl12bits : waitsOk cl12T.2 cl12B = true := by kernel_rfl
def cl14T : Bool × List (List Nat × List Nat) := (true, [([], []), ([0], [0]), ([1], [1]), ([2], [2]), ([], []), ([4], [4]), ([3, 5], [3, 5]), ([6], [6]), ([], []), ([8], [8]), ([9], [9]), ([10], [10]), ([], []), ([12], [12]), ([11, 13], [11, 13]), ([14], [14]), ([15], [15]), ([16], [16]), ([17], [17]), ([18], [18]), ([], []), ([20], [20]), ([21], [21]), ([22], [22]), ([23], [23]), ([19, 24], [19, 24]), ([7, 0, 1, 2, 3, 4, 5, 6, 7, 8, 9, 10, 11, 12, 13, 14, 15, 16, 17, 18, 19, 20, 21, 22, 23, 24, 25], [7]), ([26, 0, 1, 2, 3, 4, 5, 6, 7, 8, 9, 10, 11, 12, 13, 14, 15, 16, 17, 18, 19, 20, 21, 22, 23, 24, 25], [26]), ([27, 0, 1, 2, 3, 4, 5, 6, 7, 8, 9, 10, 11, 12, 13, 14, 15, 16, 17, 18, 19, 20, 21, 22, 23, 24, 25], [27]), ([28, 25, 25, 0, 1, 2, 3, 4, 5, 6, 7, 8, 9, 10, 11, 12, 13, 14, 15, 16, 17, 18, 19, 20, 21, 22, 23, 24, 25], [25, 28])])
def cl14B : List Nat := [0, 1, 3, 7, 0, 16, 63, 127, 0, 256, 768, 1792, 0, 4096, 16128, 32512, 65280, 130816, 261888, 524032, 0, 1048576, 3145728, 7340032, 15728640, 33554176, 67108863, 134217727, 268435455, 536870911]
theorem cl14tab : rtab .any (opsOf Tryz.f116 14) = cl14T := by kernel_rfl
theorem cl14bits : waitsOk cl14T.2 cl14B = true := by kernel_rfl
end Go.Proofs.YtknfpggiigncpaaGreatDoor.T
