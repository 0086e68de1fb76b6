/- How long a text's tokens are. -/
import Derived.Test.YtknfpggiigncpaaGreatDoorTp2
import Derived.Test.YtknfpggiigncpaaGreatDoorXTok10
import Derived.Test.YtknfpggiigncpaaGreatDoorOt1
set_option linter.unusedVariables false
set_option linter.unusedSimpArgs false
section
namespace Go.Proofs.YtknfpggiigncpaaGreatDoor.T
open Go.RowKit P E
def tokT (S : Bst) (t : C.S44) : Bst × Int :=
 if t.f0 = 1 then openT S t else if t.f0 = 2 then closeT S t.f1 else sayT S t.f2
def runT : Bst → List C.S44 → Except (Int × Int) Bst
 | S, [] => .ok S
 | S, t :: l => if (tokT S t).2 = 0 then runT (tokT S t).1 l else .error (t.f5, (tokT S t).2)
structure Got where
 space : ByteArray
 root : S24
 at_ : Int
 err : Int
def badG (a e : Int) : Got := ⟨⟨#[]⟩, z24, a, e⟩
def finT (n : Int) : Except (Int × Int) Bst → Got
 | .error (a, e) => badG a e
 | .ok S => if S.done = true then ⟨S.space, S.root, n, 0⟩ else badG n 23
def bst0 : Bst := ⟨[], z24, ⟨#[]⟩, false, 0⟩
def popT (S : Bst) (stk : List Nd) (v : S24) (m : Nat) : Bst :=
 match stk.getLast? with
 | none => { S with stack := [], root := v, done := true, many := m }
 | some up => { S with stack := stk.set (stk.length - 1) { up with ks := up.ks ++ [v] }, many := m }
theorem last_snoc (stk : List Nd) (nd : Nd) : (stk ++ [nd]).getLast? = some nd := by simp
theorem set_snoc (stk : List Nd) (nd nd' : Nd) : (stk ++ [nd]).set ((stk ++ [nd]).length - 1) nd' = stk ++ [nd'] := by
 rw [List.length_append, List.length_singleton, Nat.add_sub_cancel, List.set_append, if_neg (by omega), Nat.sub_self]
 rfl
theorem close_pop (S : Bst) (stk : List Nd) (nd : Nd) (name : ByteArray) (hS : S.stack = stk ++ [nd]) (hn : nd.name = name) : closeT S name = (popT S stk (valT nd) S.many, 0) := by
 unfold closeT popT
 rw [hS, last_snoc]
 simp only
 rw [if_pos hn, List.dropLast_concat]
 cases h : stk.getLast? with
 | none => rfl
 | some up => simp only [List.length_append, List.length_singleton]; rfl
theorem popT_snoc (S : Bst) (stk : List Nd) (up : Nd) (v : S24) (m : Nat) : popT S (stk ++ [up]) v m = { S with stack := stk ++ [{ up with ks := up.ks ++ [v] }], many := m } := by
 unfold popT
 rw [last_snoc]
 simp only
 rw [set_snoc]
theorem popT_of (S S' : Bst) (stk : List Nd) (v : S24) (m : Nat) (h1 : S'.root = S.root) (h2 : S'.space = S.space) (h3 : S'.done = S.done) : popT S' stk v m = popT S stk v m := by
 unfold popT
 cases S; cases S'
 simp only at h1 h2 h3
 subst h1 h2 h3
 cases stk.getLast? <;> rfl
end Go.Proofs.YtknfpggiigncpaaGreatDoor.T
end
section
namespace Go.Proofs.YtknfpggiigncpaaGreatDoor.C
open Go.RowKit P YtknfpggiigncpaaGreatDoorW.PrintWords
def LtX (x : List UInt8) : Prop := x = [] ∨ ∃ y, x = 60 :: y
theorem hp_app : ∀ (t l x : List UInt8), LtX x → (∀ c ∈ t, c ≠ 60) → Lib.hasPrefix (l ++ x) t = Lib.hasPrefix l t
 | [], l, x, _, _ => by simp [Lib.hasPrefix]
 | c :: t, [], x, hx, ht => by
  have hc := ht c (by simp)
  rcases hx with rfl | ⟨y, rfl⟩
  ·
   rfl
  ·
   simp [Lib.hasPrefix, List.isPrefixOf, hc]
 | c :: t, b :: l, x, hx, ht => by
  have ih := hp_app t l x hx (fun d hd => ht d (List.mem_cons_of_mem _ hd))
  unfold Lib.hasPrefix at ih ⊢
  rw [List.cons_append]
  simp only [List.isPrefixOf, ih]
theorem hp_app1 (t : List UInt8) (b : UInt8) (l x : List UInt8) (hx : LtX x) (ht : ∀ c ∈ t, c ≠ 60) : Lib.hasPrefix (b :: l ++ x) (60 :: t) = Lib.hasPrefix (b :: l) (60 :: t) := by
 have ih := hp_app t l x hx ht
 unfold Lib.hasPrefix at ih ⊢
 rw [List.cons_append]
 simp only [List.isPrefixOf, ih]
theorem index_app (l x t : List UInt8) (hx : LtX x) (ht : ∀ c ∈ t, c ≠ 60) (h : 0 ≤ Lib.index l t) : Lib.index (l ++ x) t = Lib.index l t := by
 rcases Lib.index_spec l t with ⟨h1, _⟩ | ⟨i, h1, h2, h3, h4⟩
 ·
  omega
 ·
  rw [h1]
  refine Lib.index_first (by rw [List.length_append]; omega) ?_ ?_
  ·
   unfold Lib.occAt at h3 ⊢
   rw [List.drop_append_of_le_length h2]
   exact (hp_app t _ x hx ht).trans h3
  ·
   intro j hj
   have := h4 j hj
   unfold Lib.occAt at this ⊢
   rw [List.drop_append_of_le_length (by omega)]
   exact (hp_app t _ x hx ht).trans this
theorem cut_app (l x t : List UInt8) (hx : LtX x) (ht : ∀ c ∈ t, c ≠ 60) (h : (Lib.cut l t).2.2 = true) : (Lib.cut (l ++ x) t).2.2 = true ∧ (Lib.cut (l ++ x) t).1 = (Lib.cut l t).1 := by
 unfold Lib.cut at h ⊢
 by_cases h0 : 0 ≤ Lib.index l t
 ·
  have hr := Lib.index_room l t h0
  rw [index_app l x t hx ht h0, if_pos h0, if_pos h0]
  refine ⟨rfl, ?_⟩
  exact List.take_append_of_le_length (by omega)
 ·
  rw [if_neg h0] at h
  cases h
theorem tw_app (f : UInt8 → Bool) (hf : f 60 = false) : ∀ (l x : List UInt8), LtX x → (l ++ x).takeWhile f = l.takeWhile f
 | [], x, hx => by
  rcases hx with rfl | ⟨y, rfl⟩
  ·
   rfl
  ·
   simp [hf]
 | b :: l, x, hx => by
  have ih := tw_app f hf l x hx
  rw [List.cons_append, List.takeWhile_cons, List.takeWhile_cons, ih]
structure Sim (s : ByteArray) (p : Nat) (S : ByteArray) (P : Nat) (x : List UInt8) : Prop where
 lt : LtX x
 le : p ≤ s.size
 eq : rs S P = rs s p ++ x
 big : P ≤ S.size
theorem Sim.len {s S : ByteArray} {p P : Nat} {x : List UInt8} (h : Sim s p S P x) : S.size - P = s.size - p + x.length := by
 have := congrArg List.length h.eq
 rw [List.length_append, rs_len, rs_len] at this
 exact this
theorem Sim.step {s S : ByteArray} {p P : Nat} {x : List UInt8} (h : Sim s p S P x) (k : Nat) (hk : p + k ≤ s.size) : Sim s (p + k) S (P + k) x := by
 have hl := h.len
 have hb := h.big
 have hp := h.le
 refine ⟨h.lt, hk, ?_, by omega⟩
 have h1 : rs S (P + k) = (rs S P).drop k := by unfold rs; rw [List.drop_drop]
 have h2 : rs s (p + k) = (rs s p).drop k := by unfold rs; rw [List.drop_drop]
 rw [h1, h2, h.eq, List.drop_append_of_le_length (by rw [rs_len]; omega)]
section
variable {s S : ByteArray} {p P : Nat} {x : List UInt8}
theorem sim_until (h : Sim s p S P x) {t a : List UInt8} {q : Nat} (ht : ∀ c ∈ t, c ≠ 60) (hr : untilT s p t = .ok (a, q)) : ∃ k, q = p + k ∧ p + k ≤ s.size ∧ t.length ≤ k ∧ untilT S P t = .ok (a, P + k) := by
 have hle := untilT_le hr h.le
 unfold untilT at hr ⊢
 rw [h.eq]
 split at hr
 ·
  rename_i h1
  obtain ⟨h2, h3⟩ := cut_app (rs s p) x t h.lt ht h1
  injection hr with hr
  injection hr with ha hq
  rw [if_pos h2, h3, ha]
  rw [ha] at hq
  exact ⟨a.length + t.length, hq.symm, by omega, by omega, rfl⟩
 ·
  cases hr
end
def ErrNZ {α : Type} (r : Except (Nat × Int) α) : Prop := ∀ z, r = .error z → z.2 ≠ 0
theorem nz_ok {α : Type} {v : α} : ErrNZ (Except.ok v : Except (Nat × Int) α) := fun z h => by cases h
theorem nz_err {α : Type} {a : Nat} {er : Int} (h : er ≠ 0) : ErrNZ (Except.error (a, er) : Except (Nat × Int) α) := fun z hz => by cases hz; exact h
theorem nz_until (s : ByteArray) (p : Nat) (t : List UInt8) : ErrNZ (untilT s p t) := by
 unfold untilT
 split
 ·
  exact nz_ok
 ·
  exact nz_err (by decide)
theorem nz_name (s : ByteArray) (p : Nat) : ErrNZ (nameT s p) := by
 unfold nameT
 split
 ·
  exact nz_err (by decide)
 ·
  exact nz_ok
theorem nz_must (s : ByteArray) (p : Nat) (t : List UInt8) : ErrNZ (mustT s p t) := by
 unfold mustT
 split
 ·
  exact nz_ok
 ·
  exact nz_err (by decide)
theorem nz_plain (l : List UInt8) (b : Nat) : ErrNZ (plainT l b) := by
 unfold plainT
 split
 ·
  exact nz_ok
 ·
  rename_i h
  exact nz_err h
theorem nz_of {α β : Type} {r : Except (Nat × Int) α} (h : ErrNZ r) {z : Nat × Int} (e : r = .error z) : ErrNZ (Except.error z : Except (Nat × Int) β) := fun y hy => by cases hy; exact h z e
theorem nz_attr1 (s : ByteArray) (p : Nat) (acc : List S77) : ErrNZ (attr1T s p acc) := by
 unfold attr1T
 cases h1 : nameT s p with
 | error z => exact nz_of (nz_name _ _) h1
 | ok y =>
  obtain ⟨nm, p2⟩ := y
  simp only
  cases h2 : mustT s (p3T s p2) [61] with
  | error z => exact nz_of (nz_must _ _ _) h2
  | ok p4 =>
   simp only
   split
   ·
    exact nz_err (by decide)
   ·
    cases h3 : untilT s (p3T s p4 + 1) ((rs s (p3T s p4)).take 1) with
    | error z => exact nz_of (nz_until _ _ _) h3
    | ok y =>
     obtain ⟨v, p7⟩ := y
     simp only
     split
     ·
      exact nz_err (by decide)
     ·
      cases h4 : plainT v (p3T s p4 + 1) with
      | error z => exact nz_of (nz_plain _ _) h4
      | ok y => exact nz_ok
theorem nz_attrs (s : ByteArray) : ∀ (f p : Nat) (acc : List S77), ErrNZ (attrsT s f p acc)
 | 0, p, acc => nz_ok
 | f + 1, p, acc => by
  simp only [attrsT]
  split
  ·
   cases h1 : attr1T s (p3T s p) acc with
   | error z => exact nz_of (nz_attr1 _ _ _) h1
   | ok y => exact nz_attrs s f y.2 _
  ·
   exact nz_ok
theorem nz_tk1 (s : ByteArray) (p : Nat) (xs : List S44) : ErrNZ (tk1T s p xs) := by
 unfold tk1T
 split
 ·
  unfold form1R form1T
  cases hu : untilT s (p + 4) [45, 45, 62] with
  | error x => exact fun z hz => by cases hz; exact nz_until _ _ _ x hu
  | ok y =>
   simp only
   split
   ·
    exact nz_err (by decide)
   ·
    exact nz_ok
 ·
  unfold form2T
  cases hu : untilT s (p + 9) [93, 93, 62] with
  | error z => exact nz_of (nz_until _ _ _) hu
  | ok y => exact nz_ok
 ·
  unfold form3T
  cases hu : nameT s (p + 2) with
  | error z => exact nz_of (nz_name _ _) hu
  | ok y =>
   simp only
   cases hm : mustT s (y.2 + blankN (rs s y.2)) [62] with
   | error z => exact nz_of (nz_must _ _ _) hm
   | ok y => exact nz_ok
 ·
  unfold form4T
  cases hu : nameT s (p + 1) with
  | error z => exact nz_of (nz_name _ _) hu
  | ok y =>
   simp only
   cases ha : attrsT s (s.size + 1 - y.2) y.2 [] with
   | error z => exact nz_of (nz_attrs _ _ _ _) ha
   | ok x =>
    simp only
    cases hm : mustT s (selfN s x.2) [62] with
    | error z => exact nz_of (nz_must _ _ _) hm
    | ok y => exact nz_ok
 ·
  unfold textTk
  cases hu : plainT (Lib.cut (rs s p) [60]).1 p with
  | error z => exact nz_of (nz_plain _ _) hu
  | ok y => exact nz_ok
theorem nz_tk (s : ByteArray) : ∀ (f p : Nat) (xs : List S44), ErrNZ (tkT s f p xs)
 | 0, p, xs => nz_ok
 | f + 1, p, xs => by
  simp only [tkT]
  split
  ·
   cases h1 : tk1T s p xs with
   | error z => exact nz_of (nz_tk1 _ _ _) h1
   | ok y => exact nz_tk s f y.1 y.2
  ·
   exact nz_ok
theorem nz_start (s : ByteArray) : ErrNZ (startT s) := by
 unfold startT
 split
 ·
  cases h1 : untilT s 5 [63, 62] with
  | error z => exact nz_of (nz_until _ _ _) h1
  | ok y =>
   simp only
   split
   ·
    exact nz_err (by decide)
   ·
    exact nz_ok
 ·
  exact nz_ok
theorem nz_read (s : ByteArray) : ErrNZ (readT s) := by
 unfold readT
 cases h1 : startT s with
 | error z => exact nz_of (nz_start _) h1
 | ok q => exact nz_tk _ _ _ _
theorem tokR_no {s : ByteArray} (h : (tokR s).2.2 ≠ 0) : (tokR s).1 = [] := by
 unfold tokR at h ⊢
 split
 ·
  rfl
 ·
  split
  ·
   rfl
  ·
   rename_i h1 h2
   rw [if_neg h1, if_neg h2] at h
   cases hr : readT s with
   | ok xs => rw [hr] at h; exact absurd rfl h
   | error z => rfl
theorem tokR_ok {s : ByteArray} (h : (tokR s).2.2 = 0) : s.size ≤ 1048576 ∧ (ckL s.data.toList).2 = 0 ∧ readT s = .ok (tokR s).1 := by
 unfold tokR at h ⊢
 split
 ·
  rename_i h1
  rw [if_pos h1] at h
  cases h
 ·
  rename_i h1
  rw [if_neg h1] at h
  split
  ·
   rename_i h2
   rw [if_pos h2] at h
   exact absurd h h2
  ·
   rename_i h2
   rw [if_neg h2] at h
   cases hr : readT s with
   | ok xs => exact ⟨by omega, by simpa using h2, rfl⟩
   | error z =>
    rw [hr] at h
    exact absurd h (nz_read s z hr)
def xmlP : List UInt8 := [60, 63, 120, 109, 108]
theorem start_app {s S : ByteArray} {x : List UInt8} (hS : S.data.toList = s.data.toList ++ x) (hx : LtX x) (hn : Lib.hasPrefix x xmlP = false) {q : Nat} (h : startT s = .ok q) : q ≤ s.size ∧ startT S = .ok q := by
 have hp : Lib.hasPrefix S.data.toList xmlP = Lib.hasPrefix s.data.toList xmlP := by
  rw [hS]
  cases hl : s.data.toList with
  | nil =>
   rw [List.nil_append, hn]
   rfl
  | cons b l => exact hp_app1 [63, 120, 109, 108] b l x hx (by decide)
 change Lib.hasPrefix S.data.toList [60, 63, 120, 109, 108] = Lib.hasPrefix s.data.toList [60, 63, 120, 109, 108] at hp
 unfold startT at h ⊢
 rw [hp]
 split at h
 ·
  rename_i h1
  rw [if_pos h1]
  have hlen := Lib.hasPrefix_le h1
  rw [← Lib.size_eq] at hlen
  simp at hlen
  have hlS := congrArg List.length hS
  rw [List.length_append, ← Lib.size_eq, ← Lib.size_eq] at hlS
  have hsim : Sim s 5 S 5 x := ⟨hx, hlen, by unfold rs; rw [hS, List.drop_append_of_le_length (by rw [← Lib.size_eq]; exact hlen)], by omega⟩
  cases hu : untilT s 5 [63, 62] with
  | error z => rw [hu] at h; cases h
  | ok y =>
   obtain ⟨a, q'⟩ := y
   obtain ⟨k, rfl, l1, _, H⟩ := sim_until hsim (by decide) hu
   rw [hu] at h
   rw [H]
   simp only at h ⊢
   split at h
   ·
    cases h
   ·
    rename_i hc
    injection h with h
    rw [if_neg hc]
    exact ⟨by omega, by rw [h]⟩
 ·
  rename_i h1
  rw [if_neg h1]
  injection h with h
  exact ⟨by omega, by rw [h]⟩
theorem putT_mem {xs : List S44} {t y : S44} (h : y ∈ putT xs t) : y ∈ xs ∨ y = t := by
 unfold putT at h
 split at h
 ·
  exact .inl h
 ·
  simpa using h
theorem start_le {s : ByteArray} {q : Nat} (h : startT s = .ok q) : q ≤ s.size := (start_app (x := []) (S := s) (by simp) (.inl rfl) rfl h).1
end Go.Proofs.YtknfpggiigncpaaGreatDoor.C
end
