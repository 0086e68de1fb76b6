/- Plain: the trees of elements within one another, and side by side. -/
import Derived.Test.YtknfpggiigncpaaGreatDoorPw1
import Derived.Test.YtknfpggiigncpaaGreatDoorTr7
set_option linter.unusedVariables false
set_option linter.unusedSimpArgs false
namespace Go.Proofs.YtknfpggiigncpaaGreatDoor.T
open Go.RowKit Go.Proofs.YtknfpggiigncpaaGreatDoor.P Go.Proofs.YtknfpggiigncpaaGreatDoor.E

/-- Tokens, taken one by one, their places aside. -/
def runE : Bst → List C.S44 → Except Int Bst
  | S, [] => .ok S
  | S, t :: l => if (tokT S t).2 = 0 then runE (tokT S t).1 l else .error (tokT S t).2
theorem tokT_zp (S : Bst) (t : C.S44) : tokT S (C.zp t) = tokT S t := rfl
theorem runE_of : ∀ (l : List C.S44) (S : Bst), (∃ S', runT S l = .ok S' ∧ runE S (l.map C.zp) = .ok S') ∨ (∃ a e, runT S l = .error (a, e) ∧ runE S (l.map C.zp) = .error e)
  | [], S => .inl ⟨S, rfl, rfl⟩
  | t :: l, S => by
    rw [List.map_cons, runT, runE, tokT_zp]
    by_cases h : (tokT S t).2 = 0
    · rw [if_pos h, if_pos h]
      exact runE_of l _
    · rw [if_neg h, if_neg h]
      exact .inr ⟨_, _, rfl, rfl⟩
theorem runE_app : ∀ (l m : List C.S44) (S S' : Bst), runE S l = .ok S' → runE S (l ++ m) = runE S' m
  | [], m, S, S', h => by injection h with h; subst h; rfl
  | t :: l, m, S, S', h => by
    rw [List.cons_append]
    rw [runE] at h ⊢
    by_cases h0 : (tokT S t).2 = 0
    · rw [if_pos h0] at h ⊢
      exact runE_app l m _ _ h
    · rw [if_neg h0] at h
      cases h
theorem runE_app_err : ∀ (l m : List C.S44) (S : Bst) (e : Int), runE S l = .error e → runE S (l ++ m) = .error e
  | [], m, S, e, h => by cases h
  | t :: l, m, S, e, h => by
    rw [List.cons_append]
    rw [runE] at h ⊢
    by_cases h0 : (tokT S t).2 = 0
    · rw [if_pos h0] at h ⊢
      exact runE_app_err l m _ _ h
    · rw [if_neg h0] at h ⊢
      exact h
/-- The tree of a text whose tokens are known, their places aside. -/
theorem parse_run {s : ByteArray} {m l : List C.S44} (h : C.tokR s = (m, (s.size : Int), 0)) (hm : m.map C.zp = l) :
    (∀ S, runE bst0 l = .ok S → parseT s = finT s.size (.ok S)) ∧ (∀ e, runE bst0 l = .error e → ∃ a, parseT s = badG a e) := by
  unfold parseT
  rw [h, if_neg (by simp)]
  rw [← hm]
  rcases runE_of m bst0 with ⟨S', h1, h2⟩ | ⟨a, e, h1, h2⟩
  · rw [h1, h2]
    exact ⟨fun S hS => by injection hS with hS; subst hS; rfl, fun e he => by cases he⟩
  · rw [h1, h2]
    exact ⟨fun S hS => (by cases hS), fun e' he => by injection he with he; subst he; exact ⟨a, rfl⟩⟩

def nA : ByteArray := ⟨#[97]⟩
def tA : C.S44 := ⟨1, nA, ⟨#[]⟩, [], false, 0⟩
def tC : C.S44 := ⟨2, nA, ⟨#[]⟩, [], false, 0⟩
def tB : C.S44 := ⟨1, ⟨#[98]⟩, ⟨#[]⟩, [], true, 0⟩
structure GoodN (nd : Nd) : Prop where
  name : nd.name = nA
  nm : nd.nm = nA
  sp : nd.sp = []
  said : nd.said = ⟨#[]⟩
structure GoodS (S : Bst) (n : Nat) : Prop where
  all : ∀ nd ∈ S.stack, GoodN nd
  len : S.stack.length = n
  don : S.done = false
  space : S.space = ⟨#[]⟩
theorem last_some {l : List Nd} {n : Nat} (h : l.length = n + 1) : ∃ m up, l = m ++ [up] ∧ m.length = n ∧ l.getLast? = some up := by
  have hne : l ≠ [] := by intro e; subst e; cases h
  refine ⟨l.dropLast, l.getLast hne, (List.dropLast_concat_getLast hne).symm, by rw [List.length_dropLast]; omega, List.getLast?_eq_some_getLast hne⟩
theorem split_a : D.splitT nA.data.toList = ([], [97], true) := by decide +kernel
theorem split_b : D.splitT (⟨#[98]⟩ : ByteArray).data.toList = ([], [98], true) := by decide +kernel
theorem sp0_nil {S : Bst} {n : Nat} (h : GoodS S n) : sp0T S = [] := by
  unfold sp0T
  cases hl : S.stack.getLast? with
  | none => rfl
  | some up => exact (h.all up (List.mem_of_getLast? hl)).sp
theorem up_good {S : Bst} {n : Nat} (h : GoodS S n) : (upT S ⟨#[]⟩).2 = 0 ∧ (upT S ⟨#[]⟩).1.space = ⟨#[]⟩ ∧ (∀ nd ∈ (upT S ⟨#[]⟩).1.stack, GoodN nd) ∧ (upT S ⟨#[]⟩).1.stack.length = n ∧ (upT S ⟨#[]⟩).1.done = false := by
  unfold upT
  cases hl : S.stack.getLast? with
  | none => exact ⟨rfl, rfl, h.all, h.len, h.don⟩
  | some up =>
    have hg := h.all up (List.mem_of_getLast? hl)
    refine ⟨?_, h.space, ?_, by rw [List.length_set]; exact h.len, h.don⟩
    · simp only
      rw [hg.said]
      rfl
    · intro nd hnd
      rcases List.mem_or_eq_of_mem_set hnd with hnd | rfl
      · exact h.all nd hnd
      · exact ⟨hg.name, hg.nm, hg.sp, hg.said⟩
/-- One more element is opened. -/
theorem open_a {S : Bst} {n : Nat} (h : GoodS S n) (hm : S.many = n) (hn : n ≤ 64) :
    (n = 64 → (tokT S tA).2 = 4) ∧ (n < 64 → (tokT S tA).2 = 0 ∧ GoodS (tokT S tA).1 (n + 1) ∧ (tokT S tA).1.many = n + 1) := by
  obtain ⟨u1, u2, u3, u4, u5⟩ := up_good h
  have e : tokT S tA = openT S tA := rfl
  rw [e]
  unfold openT
  rw [show attsT tA.f3 (sp0T S) [] = some ([], []) from by rw [sp0_nil h]; rfl]
  simp only
  rw [show D.splitT tA.f1.data.toList = ([], [97], true) from split_a]
  simp only
  rw [show (⟨((spGet [] []).getD []).toArray⟩ : ByteArray) = ⟨#[]⟩ from rfl, h.don, u1, u2, h.len, hm]
  rw [if_neg (by simp), if_neg (by simp), if_neg (by simp)]
  refine ⟨fun h64 => by rw [if_pos h64], fun h64 => ?_⟩
  rw [if_neg (by omega), if_neg (by simp; omega)]
  rw [show tA.f4 = false from rfl, if_neg (by simp)]
  refine ⟨rfl, ⟨?_, ?_, u5, rfl⟩, by simp⟩
  · intro nd hnd
    rcases List.mem_append.1 hnd with hnd | hnd
    · exact u3 nd hnd
    · rw [List.mem_singleton.1 hnd]
      exact ⟨rfl, rfl, rfl, rfl⟩
  · simp only [List.length_append, u4]
    rfl
theorem opens_a : ∀ (k n : Nat) (S : Bst), GoodS S n → S.many = n → n + k ≤ 64 → ∃ S', runE S (List.replicate k tA) = .ok S' ∧ GoodS S' (n + k)
  | 0, n, S, h, hm, hk => ⟨S, rfl, h⟩
  | k + 1, n, S, h, hm, hk => by
    obtain ⟨h1, h2, h3⟩ := (open_a h hm (by omega)).2 (by omega)
    obtain ⟨S', h4, h5⟩ := opens_a k (n + 1) _ h2 h3 (by omega)
    refine ⟨S', ?_, by rw [show n + (k + 1) = n + 1 + k by omega]; exact h5⟩
    rw [List.replicate_succ, runE, if_pos h1]
    exact h4
theorem opens_deep : ∀ (k n : Nat) (S : Bst), GoodS S n → S.many = n → n ≤ 64 → 64 < n + k → runE S (List.replicate k tA) = .error 4
  | 0, n, S, h, hm, hn, hk => by omega
  | k + 1, n, S, h, hm, hn, hk => by
    rw [List.replicate_succ, runE]
    by_cases h64 : n = 64
    · have := (open_a h hm hn).1 h64
      rw [this, if_neg (by decide)]
    · obtain ⟨h1, h2, h3⟩ := (open_a h hm (by omega)).2 (by omega)
      rw [if_pos h1]
      exact opens_deep k (n + 1) _ h2 h3 (by omega) (by omega)
theorem close_a {S : Bst} {n : Nat} (hall : ∀ nd ∈ S.stack, GoodN nd) (hlen : S.stack.length = n + 1) : (tokT S tC).2 = 0 ∧ (0 < n → (∀ nd ∈ (tokT S tC).1.stack, GoodN nd) ∧ (tokT S tC).1.stack.length = n) ∧ (n = 0 → (tokT S tC).1.done = true ∧ (tokT S tC).1.root.f0 = nA ∧ ∃ up, S.stack = [up] ∧ (tokT S tC).1.root.f2 = up.ks) := by
  obtain ⟨m, up, hs, hm, hl⟩ := last_some hlen
  have hg := hall up (by rw [hs]; simp)
  have e : tokT S tC = closeT S nA := rfl
  rw [e]
  unfold closeT
  rw [hl]
  simp only
  rw [if_pos hg.name]
  rw [hs, List.dropLast_concat]
  cases hd : m.getLast? with
  | none =>
    have : m = [] := by simpa using hd
    subst this
    exact ⟨rfl, fun h0 => absurd hm (by simp; omega), fun _ => ⟨rfl, hg.nm, up, rfl, rfl⟩⟩
  | some up2 =>
    have hm2 : 0 < m.length := by
      rcases m with _ | ⟨x, m⟩
      · cases hd
      · simp
    refine ⟨rfl, fun _ => ⟨?_, by simp only [List.length_set]; exact hm⟩, fun h0 => by omega⟩
    have hg2 := hall up2 (by rw [hs]; exact List.mem_append_left _ (List.mem_of_getLast? hd))
    intro nd hnd
    rcases List.mem_or_eq_of_mem_set hnd with hnd | rfl
    · exact hall nd (by rw [hs]; exact List.mem_append_left _ hnd)
    · exact ⟨hg2.name, hg2.nm, hg2.sp, hg2.said⟩
theorem closes_a : ∀ (n : Nat) (S : Bst), (∀ nd ∈ S.stack, GoodN nd) → S.stack.length = n + 1 → ∃ S', runE S (List.replicate (n + 1) tC) = .ok S' ∧ S'.done = true ∧ S'.root.f0 = nA
  | 0, S, hall, hlen => by
    obtain ⟨h1, _, h3⟩ := close_a hall hlen
    obtain ⟨h4, h5, _⟩ := h3 rfl
    refine ⟨_, ?_, h4, h5⟩
    show (if (tokT S tC).2 = 0 then runE (tokT S tC).1 [] else .error (tokT S tC).2) = _
    rw [if_pos h1]
    rfl
  | n + 1, S, hall, hlen => by
    obtain ⟨h1, h2, _⟩ := close_a hall hlen
    obtain ⟨h4, h5⟩ := h2 (by omega)
    obtain ⟨S', h6, h7⟩ := closes_a n _ h4 h5
    refine ⟨S', ?_, h7⟩
    rw [List.replicate_succ, runE, if_pos h1]
    exact h6
/-- Side by side. -/
structure WideS (S : Bst) (k : Nat) : Prop where
  one : ∃ up, S.stack = [up] ∧ GoodN up ∧ up.ks.length = k
  don : S.done = false
  space : S.space = ⟨#[]⟩
  many : S.many = k + 1
theorem self_b {S : Bst} {k : Nat} (h : WideS S k) (hk : k < 1000) : (tokT S tB).2 = 0 ∧ WideS (tokT S tB).1 (k + 1) := by
  obtain ⟨⟨up, hs, hg, hl⟩, hd, hsp, hm⟩ := h
  have e : tokT S tB = openT S tB := rfl
  rw [e]
  unfold openT
  have h0 : sp0T S = [] := by unfold sp0T; rw [hs]; exact hg.sp
  rw [show attsT tB.f3 (sp0T S) [] = some ([], []) from by rw [h0]; rfl]
  simp only
  rw [show D.splitT tB.f1.data.toList = ([], [98], true) from split_b]
  simp only
  rw [show (⟨((spGet [] []).getD []).toArray⟩ : ByteArray) = ⟨#[]⟩ from rfl]
  have hu : upT S ⟨#[]⟩ = ({ S with stack := [{ up with hask := true }] }, 0) := by
    unfold upT
    rw [hs]
    simp only [List.getLast?_singleton]
    rw [hg.said]
    rfl
  rw [hu, hd, hsp, hm, hs]
  rw [if_neg (by simp), if_neg (by simp), if_neg (by simp), if_neg (by simp), if_neg (by simp; omega)]
  rw [show tB.f4 = true from rfl, if_pos rfl]
  unfold closeT
  simp only [List.cons_append, List.nil_append, List.getLast?_cons_cons, List.getLast?_singleton]
  rw [if_pos trivial]
  refine ⟨rfl, ⟨⟨{ up with hask := true, ks := up.ks ++ [_] }, rfl, ⟨hg.name, hg.nm, hg.sp, hg.said⟩, ?_⟩, rfl, rfl, ?_⟩⟩
  · simp [hl]
  · simp
theorem selfs_b : ∀ (m k : Nat) (S : Bst), WideS S k → k + m < 1000 → ∃ S', runE S (List.replicate m tB) = .ok S' ∧ WideS S' (k + m)
  | 0, k, S, h, hk => ⟨S, rfl, h⟩
  | m + 1, k, S, h, hk => by
    obtain ⟨h1, h2⟩ := self_b h (by omega)
    obtain ⟨S', h4, h5⟩ := selfs_b m (k + 1) _ h2 (by omega)
    refine ⟨S', ?_, by rw [show k + (m + 1) = k + 1 + m by omega]; exact h5⟩
    rw [List.replicate_succ, runE, if_pos h1]
    exact h4
theorem good0 : GoodS bst0 0 := ⟨(by intro nd h; cases h), rfl, rfl, rfl⟩
theorem wide0 : ∃ S, runE bst0 [tA] = .ok S ∧ WideS S 0 := by
  obtain ⟨h1, h2, h3⟩ := (open_a good0 rfl (by omega)).2 (by omega)
  obtain ⟨m, up, hs, hm, _⟩ := last_some h2.len
  have : m = [] := List.eq_nil_of_length_eq_zero hm
  subst this
  refine ⟨(tokT bst0 tA).1, ?_, ⟨up, hs, h2.all up (by rw [hs]; simp), ?_⟩, h2.don, h2.space, h3⟩
  · show (if (tokT bst0 tA).2 = 0 then runE (tokT bst0 tA).1 [] else .error (tokT bst0 tA).2) = _
    rw [if_pos h1]
    rfl
  · have hx : (tokT bst0 tA).1.stack = [⟨nA, ⟨#[]⟩, [], nA, [], ⟨#[]⟩, false⟩] := by kernel_rfl
    rw [hx] at hs
    injection hs with hs
    rw [← hs]
    rfl
theorem wide_all (m : Nat) (hm : m < 999) : ∃ S, runE bst0 ([tA] ++ (List.replicate m tB ++ [tC])) = .ok S ∧ S.done = true ∧ S.root.f2.length = m := by
  obtain ⟨S0, h1, h2⟩ := wide0
  obtain ⟨S1, h3, h4⟩ := selfs_b m 0 S0 h2 (by omega)
  obtain ⟨⟨up, hs, hg, hl⟩, _, _, _⟩ := h4
  obtain ⟨c1, _, c3⟩ := close_a (S := S1) (n := 0) (by intro nd h; rw [hs] at h; rw [List.mem_singleton.1 h]; exact hg) (by rw [hs]; rfl)
  obtain ⟨c4, _, up2, c5, c6⟩ := c3 rfl
  refine ⟨(tokT S1 tC).1, ?_, c4, ?_⟩
  · rw [runE_app _ _ _ _ h1, runE_app _ _ _ _ h3]
    show (if (tokT S1 tC).2 = 0 then runE (tokT S1 tC).1 [] else .error (tokT S1 tC).2) = _
    rw [if_pos c1]
    rfl
  · rw [c6]
    rw [hs] at c5
    injection c5 with c5
    rw [← c5, hl, Nat.zero_add]

/-! The texts. -/
def reps (k : Nat) (l : List UInt8) : List UInt8 := (List.replicate k l).flatten
theorem reps_succ (k : Nat) (l : List UInt8) : reps (k + 1) l = l ++ reps k l := by unfold reps; rw [List.replicate_succ, List.flatten_cons]
theorem reps_snoc (k : Nat) (l : List UInt8) : reps (k + 1) l = reps k l ++ l := by unfold reps; rw [List.replicate_succ', List.flatten_append]; simp
theorem reps_len (k : Nat) (l : List UInt8) : (reps k l).length = k * l.length := by
  induction k with
  | zero => simp [reps]
  | succ k ih => rw [reps_succ, List.length_append, ih, Nat.add_mul]; omega
theorem mem_reps {k : Nat} {l : List UInt8} {b : UInt8} (h : b ∈ reps k l) : b ∈ l := by
  unfold reps at h
  obtain ⟨x, hx, hb⟩ := List.mem_flatten.1 h
  rw [List.eq_of_mem_replicate hx] at hb
  exact hb
theorem name_a : C.NameOk [97] := ⟨⟨97, [], rfl, by decide⟩, by decide, by decide⟩
theorem name_b : C.NameOk [98] := ⟨⟨98, [], rfl, by decide⟩, by decide, by decide⟩
def oA : List UInt8 := [60, 97, 62]
def cA : List UInt8 := [60, 47, 97, 62]
def sB : List UInt8 := [60, 98, 47, 62]
theorem r_oA {s : ByteArray} {p : Nat} {r : List UInt8} (h : C.rs s p = oA ++ r) : C.Run s p (p + 3) [tA] :=
  C.run_open (nm := [97]) (bl := []) (l := []) (self := false) (r := r) h name_a (by intro c h; cases h) (by intro a h; cases h) (by simp) (by simp)
theorem r_sB {s : ByteArray} {p : Nat} {r : List UInt8} (h : C.rs s p = sB ++ r) : C.Run s p (p + 4) [tB] :=
  C.run_open (nm := [98]) (bl := []) (l := []) (self := true) (r := r) h name_b (by intro c h; cases h) (by intro a h; cases h) (by simp) (by simp)
theorem r_cA {s : ByteArray} {p : Nat} {r : List UInt8} (h : C.rs s p = cA ++ r) : C.Run s p (p + 4) [tC] :=
  C.run_close (nm := [97]) (r := r) h name_a
theorem run_reps {s : ByteArray} {t : List UInt8} {k : C.S44} {n : Nat} (ht : t.length = n) (h1 : ∀ p r, C.rs s p = t ++ r → C.Run s p (p + n) [k]) : ∀ (j p : Nat) (r : List UInt8), p ≤ s.size → C.rs s p = reps j t ++ r → C.Run s p (p + j * n) (List.replicate j k)
  | 0, p, r, hp, h => by
    rw [Nat.zero_mul]
    exact C.Run.refl hp
  | j + 1, p, r, hp, h => by
    rw [reps_succ, List.append_assoc] at h
    have a := h1 p _ h
    have h2 := C.rs_step h
    rw [ht] at h2
    have b := run_reps ht h1 j (p + n) r a.2.1 h2
    have := a.trans b
    rw [show p + (j + 1) * n = p + n + j * n by rw [Nat.add_mul]; omega, List.replicate_succ]
    exact this
def deepL (n : Nat) : List UInt8 := reps n oA ++ reps n cA
def wideL (m : Nat) : List UInt8 := oA ++ (reps m sB ++ cA)
theorem ascii_ok : ∀ b ∈ ([60, 97, 62, 47, 98] : List UInt8), b.toNat < 128 ∧ xmlB b.toNat = true := by decide
theorem ck_ok {l : List UInt8} (h : ∀ b ∈ l, b ∈ ([60, 97, 62, 47, 98] : List UInt8)) : (ckL l).2 = 0 := by
  have := ck_asciis l [] (fun b hb => ascii_ok b (h b hb))
  rw [List.append_nil] at this
  rw [this]
  rfl
theorem sz_list (s : ByteArray) : s.size = s.data.toList.length := by simp
theorem deep_toks (n : Nat) (hn : n ≤ 100) (s : ByteArray) (hs : s.data.toList = deepL n) : ∃ m, m.map C.zp = List.replicate n tA ++ List.replicate n tC ∧ C.tokR s = (m, (s.size : Int), 0) := by
  have hl : s.size = n * 3 + n * 4 := by
    rw [sz_list, hs]
    unfold deepL
    rw [List.length_append, reps_len, reps_len]
    rfl
  refine C.tokR_run (by omega) ?_ ?_ ?_
  · rw [hs]
    refine ck_ok fun b hb => ?_
    rcases List.mem_append.1 hb with hb | hb
    · have := mem_reps hb
      revert this
      simp [oA]
      rintro (h | h | h) <;> simp [h]
    · have := mem_reps hb
      revert this
      simp [cA]
      rintro (h | h | h | h) <;> simp [h]
  · rw [hs]
    unfold deepL
    cases n with
    | zero => rfl
    | succ n => rw [reps_succ]; rfl
  · have h0 : C.rs s 0 = reps n oA ++ reps n cA := by unfold C.rs; rw [List.drop_zero, hs]; rfl
    have a := run_reps (s := s) (t := oA) (k := tA) (n := 3) rfl (fun p r h => r_oA h) n 0 _ (by omega) h0
    have h1 := C.rs_step h0
    rw [reps_len] at h1
    have b := run_reps (s := s) (t := cA) (k := tC) (n := 4) rfl (fun p r h => r_cA h) n (0 + n * 3) [] (by omega) (by rw [List.append_nil]; exact h1)
    have := a.trans b
    rw [show 0 + n * 3 + n * 4 = s.size by omega] at this
    exact this
theorem wide_toks (m : Nat) (hm : m < 300) (s : ByteArray) (hs : s.data.toList = wideL m) : ∃ l, l.map C.zp = [tA] ++ (List.replicate m tB ++ [tC]) ∧ C.tokR s = (l, (s.size : Int), 0) := by
  have hl : s.size = 3 + (m * 4 + 4) := by
    rw [sz_list, hs]
    unfold wideL
    rw [List.length_append, List.length_append, reps_len]
    rfl
  refine C.tokR_run (by omega) ?_ ?_ ?_
  · rw [hs]
    refine ck_ok fun b hb => ?_
    rcases List.mem_append.1 hb with hb | hb
    · revert hb
      simp [oA]
      rintro (h | h | h) <;> simp [h]
    · rcases List.mem_append.1 hb with hb | hb
      · have := mem_reps hb
        revert this
        simp [sB]
        rintro (h | h | h | h) <;> simp [h]
      · revert hb
        simp [cA]
        rintro (h | h | h | h) <;> simp [h]
  · rw [hs]
    rfl
  · have h0 : C.rs s 0 = oA ++ (reps m sB ++ cA) := by unfold C.rs; rw [List.drop_zero, hs]; rfl
    have a := r_oA h0
    have h1 := C.rs_step h0
    have b := run_reps (s := s) (t := sB) (k := tB) (n := 4) rfl (fun p r h => r_sB h) m (0 + oA.length) _ (by rw [hl]; show 0 + 3 ≤ _; omega) h1
    have h2 := C.rs_step h1
    rw [reps_len] at h2
    have c := r_cA (r := []) (by rw [List.append_nil]; exact h2)
    have := a.trans (b.trans c)
    rw [show 0 + oA.length + m * sB.length + 4 = s.size by rw [hl]; show 0 + 3 + m * 4 + 4 = _; omega] at this
    exact this
/-- Elements within one another: the error, and the root's name. -/
theorem deep_parse (n : Nat) (hn : n ≤ 100) (s : ByteArray) (hs : s.data.toList = deepL n) : (parseT s).err = (if 64 < n then 4 else if n = 0 then 23 else 0) ∧ ((parseT s).err = 0 → (parseT s).root.f0 = nA) := by
  obtain ⟨m, hm, ht⟩ := deep_toks n hn s hs
  obtain ⟨k1, k2⟩ := parse_run ht hm
  by_cases h64 : 64 < n
  · obtain ⟨a, ha⟩ := k2 4 (runE_app_err _ _ _ _ (opens_deep n 0 bst0 good0 rfl (by omega) (by omega)))
    rw [ha, if_pos h64]
    exact ⟨rfl, fun h => absurd (show (4 : Int) = 0 from h) (by decide)⟩
  · rw [if_neg h64]
    by_cases h0 : n = 0
    · subst h0
      rw [k1 bst0 rfl, if_pos rfl]
      exact ⟨rfl, fun h => absurd (show (23 : Int) = 0 from h) (by decide)⟩
    · obtain ⟨S1, h1, h2⟩ := opens_a n 0 bst0 good0 rfl (by omega)
      obtain ⟨j, rfl⟩ : ∃ j, n = j + 1 := ⟨n - 1, by omega⟩
      obtain ⟨S2, h3, h4, h5⟩ := closes_a j S1 h2.all (by rw [h2.len]; omega)
      rw [k1 S2 (by rw [runE_app _ _ _ _ h1]; exact h3), if_neg h0]
      unfold finT
      simp only
      rw [if_pos h4]
      exact ⟨rfl, fun _ => h5⟩
theorem wide_parse (m : Nat) (hm : m < 300) (s : ByteArray) (hs : s.data.toList = wideL m) : (parseT s).err = 0 ∧ (parseT s).root.f2.length = m := by
  obtain ⟨l, hl, ht⟩ := wide_toks m hm s hs
  obtain ⟨k1, _⟩ := parse_run ht hl
  obtain ⟨S, h1, h2, h3⟩ := wide_all m (by omega)
  rw [k1 S h1]
  unfold finT
  simp only
  rw [if_pos h2]
  exact ⟨rfl, h3⟩
end Go.Proofs.YtknfpggiigncpaaGreatDoor.T
