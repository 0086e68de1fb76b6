/- Tree, in plain Lean: the program's builder, run over tokens, comes to what the document's descent tells. -/
import Derived.Test.YtknfpggiigncpaaGreatDoorTp2
set_option linter.unusedVariables false
set_option linter.unusedSimpArgs false
namespace Go.Proofs.YtknfpggiigncpaaGreatDoor.T
open Go.RowKit P E
def tokT (S : Bst) (t : C.S44) : Bst × Int :=
 if t.f0 = 1 then openT S t else if t.f0 = 2 then closeT S t.f1 else sayT S t.f2
def runT : Bst → List C.S44 → Except (Int × Int) Bst
 | S, [] => .ok S
 | S, t :: l => if (tokT S t).2 = 0 then runT (tokT S t).1 l else .error (t.f5, (tokT S t).2)
structure Got where
 space : ByteArray
 root : S24
 at_ : Int
 err : Int
def badG (a e : Int) : Got := ⟨⟨#[]⟩, z24, a, e⟩
def finT (n : Int) : Except (Int × Int) Bst → Got
 | .error (a, e) => badG a e
 | .ok S => if S.done = true then ⟨S.space, S.root, n, 0⟩ else badG n 23
def bst0 : Bst := ⟨[], z24, ⟨#[]⟩, false, 0⟩
def headT (sp : List (List UInt8 × List UInt8)) (deep many : Nat) (space : ByteArray) (t : C.S44) : Except Int (Nd × Nat × ByteArray) :=
 match attsT t.f3 sp [] with
 | none => .error 23
 | some (sp', ks) =>
  if (D.splitT t.f1.data.toList).2.2 = false ∨ ((spGet sp' (D.splitT t.f1.data.toList).1).isSome || (D.splitT t.f1.data.toList).1.isEmpty) = false then .error 23
  else if (⟨((spGet sp' (D.splitT t.f1.data.toList).1).getD []).toArray⟩ : ByteArray) ≠ (if deep = 0 then ⟨((spGet sp' (D.splitT t.f1.data.toList).1).getD []).toArray⟩ else space) then .error 24
  else if deep = 64 then .error 4
  else if many + ks.length + 1 > 20000 then .error 3
  else .ok (⟨⟨(D.splitT t.f1.data.toList).2.1.toArray⟩, ⟨#[]⟩, ks, t.f1, sp', ⟨#[]⟩, false⟩, many + ks.length + 1, if deep = 0 then ⟨((spGet sp' (D.splitT t.f1.data.toList).1).getD []).toArray⟩ else space)
def loopR (n : Int) : Nat → Nd → Nat → Nat → ByteArray → List C.S44 → Except (Int × Int) (S24 × Nat × List C.S44)
 | 0, _, _, _, _, _ => .error (n, 23)
 | _ + 1, _, _, _, _, [] => .error (n, 23)
 | k + 1, nd, deep, many, space, x :: l =>
  if x.f0 = 3 then
   if nd.hask = true ∧ blankL x.f2.data.toList = false then .error (x.f5, 23) else loopR n k { nd with said := nd.said ++ x.f2 } deep many space l
  else if x.f0 = 2 then
   if x.f1 = nd.name then .ok (valT nd, many, l) else .error (x.f5, 23)
  else if blankL nd.said.data.toList = false then .error (x.f5, 23)
  else
   match headT nd.sp (deep + 1) many space x with
   | .error e => .error (x.f5, e)
   | .ok (nd2, many2, _) =>
    if x.f4 = true then loopR n k { nd with ks := nd.ks ++ [valT nd2], hask := true } deep many2 space l
    else
     match loopR n k nd2 (deep + 1) many2 space l with
     | .error z => .error z
     | .ok (v, many3, l') => loopR n k { nd with ks := nd.ks ++ [v], hask := true } deep many3 space l'
def topR (n : Int) : Nat → Bool → S24 → Nat → ByteArray → List C.S44 → Got
 | 0, done, root, many, space, _ => if done = true then ⟨space, root, n, 0⟩ else badG n 23
 | _ + 1, done, root, many, space, [] => if done = true then ⟨space, root, n, 0⟩ else badG n 23
 | k + 1, done, root, many, space, x :: l =>
  if x.f0 = 3 ∧ blankL x.f2.data.toList = true then topR n k done root many space l
  else if x.f0 ≠ 1 ∨ done = true then badG x.f5 23
  else
   match headT [] 0 many space x with
   | .error e => badG x.f5 e
   | .ok (nd, many2, space2) =>
    if x.f4 = true then topR n k true (valT nd) many2 space2 l
    else
     match loopR n k nd 0 many2 space2 l with
     | .error z => badG z.1 z.2
     | .ok (v, many3, l') => topR n k true v many3 space2 l'
def popT (S : Bst) (stk : List Nd) (v : S24) (m : Nat) : Bst :=
 match stk.getLast? with
 | none => { S with stack := [], root := v, done := true, many := m }
 | some up => { S with stack := stk.set (stk.length - 1) { up with ks := up.ks ++ [v] }, many := m }
def LoopSaid (n : Int) (S : Bst) (stk : List Nd) (toks : List C.S44) : Except (Int × Int) (S24 × Nat × List C.S44) → Prop
 | .error z => finT n (runT S toks) = badG z.1 z.2
 | .ok (v, m, l) => (∃ p, toks = p ++ l) ∧ runT S toks = runT (popT S stk v m) l
def Kinds (toks : List C.S44) : Prop := ∀ t ∈ toks, t.f0 = 1 ∨ t.f0 = 2 ∨ t.f0 = 3
theorem last_snoc (stk : List Nd) (nd : Nd) : (stk ++ [nd]).getLast? = some nd := by simp
theorem set_snoc (stk : List Nd) (nd nd' : Nd) : (stk ++ [nd]).set ((stk ++ [nd]).length - 1) nd' = stk ++ [nd'] := by
 rw [List.length_append, List.length_singleton, Nat.add_sub_cancel, List.set_append, if_neg (by omega), Nat.sub_self]
 rfl
theorem close_pop (S : Bst) (stk : List Nd) (nd : Nd) (name : ByteArray) (hS : S.stack = stk ++ [nd]) (hn : nd.name = name) : closeT S name = (popT S stk (valT nd) S.many, 0) := by
 unfold closeT popT
 rw [hS, last_snoc]
 simp only
 rw [if_pos hn, List.dropLast_concat]
 cases h : stk.getLast? with
 | none => rfl
 | some up => simp only [List.length_append, List.length_singleton]; rfl
theorem run_err (S : Bst) (t : C.S44) (l : List C.S44) (e : Int) (h : (tokT S t).2 = e) (he : e ≠ 0) : runT S (t :: l) = .error (t.f5, e) := by
 rw [runT, h, if_neg he]
theorem run_ok (S S' : Bst) (t : C.S44) (l : List C.S44) (h : tokT S t = (S', 0)) : runT S (t :: l) = runT S' l := by
 rw [runT, h, if_pos rfl]
theorem popT_snoc (S : Bst) (stk : List Nd) (up : Nd) (v : S24) (m : Nat) : popT S (stk ++ [up]) v m = { S with stack := stk ++ [{ up with ks := up.ks ++ [v] }], many := m } := by
 unfold popT
 rw [last_snoc]
 simp only
 rw [set_snoc]
theorem popT_of (S S' : Bst) (stk : List Nd) (v : S24) (m : Nat) (h1 : S'.root = S.root) (h2 : S'.space = S.space) (h3 : S'.done = S.done) : popT S' stk v m = popT S stk v m := by
 unfold popT
 cases S; cases S'
 simp only at h1 h2 h3
 subst h1 h2 h3
 cases stk.getLast? <;> rfl
theorem open_head (S : Bst) (t : C.S44) (hd : S.done = false) (hsaid : ∀ up, S.stack.getLast? = some up → blankL up.said.data.toList = true) :
  match headT (sp0T S) S.stack.length S.many S.space t with
  | .error e => (openT S t).2 = e ∧ e ≠ 0
  | .ok (nd, m, inn) => openT S t = (if t.f4 = true then closeT { (upT S inn).1 with stack := (upT S inn).1.stack ++ [nd], many := m } t.f1 else ({ (upT S inn).1 with stack := (upT S inn).1.stack ++ [nd], many := m }, 0)) ∧ (upT S inn).1.space = inn ∧ nd.name = t.f1 := by
 have hu : ∀ inn, (upT S inn).2 = 0 := by
  intro inn
  unfold upT
  cases h : S.stack.getLast? with
  | none => rfl
  | some up => simp only; rw [if_pos (hsaid up h)]
 have hsp : ∀ inn, (upT S inn).1.space = if S.stack.length = 0 then inn else S.space := by
  intro inn
  unfold upT
  cases h : S.stack.getLast? with
  | none =>
   have : S.stack = [] := List.getLast?_eq_none_iff.1 h
   rw [this]
   rfl
  | some up =>
   have : S.stack.length ≠ 0 := by
    intro h0
    rw [List.length_eq_zero_iff.1 h0] at h
    cases h
   rw [if_neg this]
 unfold headT openT
 cases ha : attsT t.f3 (sp0T S) [] with
 | none => exact ⟨rfl, by decide⟩
 | some q =>
  obtain ⟨sp', ks⟩ := q
  simp only
  obtain ⟨x, hx⟩ : ∃ x, D.splitT t.f1.data.toList = x := ⟨_, rfl⟩
  obtain ⟨inn, hin⟩ : ∃ inn : ByteArray, ⟨((spGet sp' x.1).getD []).toArray⟩ = inn := ⟨_, rfl⟩
  simp only [hx, hin]
  have hne : inn ≠ (upT S inn).1.space ↔ inn ≠ (if S.stack.length = 0 then inn else S.space) := by rw [hsp]
  by_cases c1 : x.2.2 = false ∨ ((spGet sp' x.1).isSome || x.1.isEmpty) = false
  ·
   rw [if_pos c1, if_pos (show x.2.2 = false ∨ ((spGet sp' x.1).isSome || x.1.isEmpty) = false ∨ S.done = true from c1.elim .inl (fun c => .inr (.inl c)))]
   exact ⟨rfl, by decide⟩
  ·
   have c1' : ¬ (x.2.2 = false ∨ ((spGet sp' x.1).isSome || x.1.isEmpty) = false ∨ S.done = true) := by
    rintro (c | c | c)
    ·
     exact c1 (.inl c)
    ·
     exact c1 (.inr c)
    ·
     rw [hd] at c; cases c
   rw [if_neg c1, if_neg c1', if_neg (show ¬ ((upT S inn).2 ≠ 0) from fun h => h (hu inn))]
   by_cases c2 : inn ≠ (if S.stack.length = 0 then inn else S.space)
   ·
    rw [if_pos c2, if_pos (hne.2 c2)]
    exact ⟨rfl, by decide⟩
   ·
    rw [if_neg c2, if_neg (fun h => c2 (hne.1 h))]
    by_cases c3 : S.stack.length = 64
    ·
     rw [if_pos c3, if_pos c3]
     exact ⟨rfl, by decide⟩
    ·
     rw [if_neg c3, if_neg c3]
     by_cases c4 : S.many + ks.length + 1 > 20000
     ·
      rw [if_pos c4, if_pos c4]
      exact ⟨rfl, by decide⟩
     ·
      rw [if_neg c4, if_neg c4]
      have c2' : inn = (if S.stack.length = 0 then inn else S.space) := Classical.byContradiction c2
      rw [← c2']
      exact ⟨rfl, by rw [hsp, ← c2'], rfl⟩
theorem open_said (S : Bst) (t : C.S44) (up : Nd) (hup : S.stack.getLast? = some up) (hs : blankL up.said.data.toList = false) : (openT S t).2 = 23 := by
 unfold openT
 cases ha : attsT t.f3 (sp0T S) [] with
 | none => rfl
 | some q =>
  obtain ⟨sp', ks⟩ := q
  simp only
  split
  ·
   rfl
  ·
   have : ∀ inn, (upT S inn).2 ≠ 0 := by
    intro inn
    unfold upT
    rw [hup]
    simp only
    rw [if_neg (by rw [hs]; decide)]
    decide
   rw [if_pos (this _)]
theorem loop_run (n : Int) : ∀ (k : Nat) (toks : List C.S44) (stk : List Nd) (nd : Nd) (S : Bst), toks.length ≤ k → S.stack = stk ++ [nd] → S.done = false → Kinds toks → LoopSaid n S stk toks (loopR n k nd stk.length S.many S.space toks) := by
 intro k
 induction k with
 | zero =>
  intro toks stk nd S hl hS hd _
  obtain rfl : toks = [] := List.length_eq_zero_iff.1 (by omega)
  show finT n (runT S []) = _
  rw [runT, finT, if_neg (by rw [hd]; decide)]
 | succ k ih =>
  intro toks stk nd S hl hS hd hK
  cases toks with
  | nil =>
   show finT n (runT S []) = _
   rw [runT, finT, if_neg (by rw [hd]; decide)]
  | cons x l =>
   have hlast : S.stack.getLast? = some nd := by rw [hS, last_snoc]
   have hlen : S.stack.length = stk.length + 1 := by rw [hS]; simp
   have hl' : l.length ≤ k := by simp only [List.length_cons] at hl; omega
   have hK' : Kinds l := fun t ht => hK t (List.mem_cons_of_mem _ ht)
   rw [loopR]
   by_cases c3 : x.f0 = 3
   ·
    rw [if_pos c3]
    have htk : tokT S x = sayT S x.f2 := by unfold tokT; rw [if_neg (by omega), if_neg (by omega)]
    have hsay : sayT S x.f2 = ({ S with stack := stk ++ [{ nd with said := nd.said ++ x.f2 }] }, if nd.hask && !blankL x.f2.data.toList then 23 else 0) := by
     unfold sayT
     rw [hlast]
     simp only
     rw [hS, set_snoc]
    by_cases c : nd.hask = true ∧ blankL x.f2.data.toList = false
    ·
     rw [if_pos c]
     show finT n (runT S (x :: l)) = _
     rw [run_err S x l 23 (by rw [htk, hsay]; simp [c.1, c.2]) (by decide)]
     rfl
    ·
     rw [if_neg c]
     have h0 : (if nd.hask && !blankL x.f2.data.toList then (23 : Int) else 0) = 0 := by
      rw [if_neg]
      intro h
      simp only [Bool.and_eq_true, Bool.not_eq_true'] at h
      exact c h
     have hr : runT S (x :: l) = runT { S with stack := stk ++ [{ nd with said := nd.said ++ x.f2 }] } l := run_ok _ _ _ _ (by rw [htk, hsay, h0])
     have := ih l stk { nd with said := nd.said ++ x.f2 } { S with stack := stk ++ [{ nd with said := nd.said ++ x.f2 }] } hl' rfl hd hK'
     revert this
     simp only
     generalize loopR n k { nd with said := nd.said ++ x.f2 } stk.length S.many S.space l = R
     intro this
     cases R with
     | error z => show finT n (runT S (x :: l)) = _; rw [hr]; exact this
     | ok q =>
      obtain ⟨v, m, l2⟩ := q
      obtain ⟨⟨p, hp⟩, h2⟩ := this
      exact ⟨⟨x :: p, by rw [hp]; rfl⟩, (hr.trans h2).trans (congrArg (fun X => runT X l2) (popT_of S _ stk v m rfl rfl rfl))⟩
   ·
    rw [if_neg c3]
    by_cases c2 : x.f0 = 2
    ·
     rw [if_pos c2]
     have htk : tokT S x = closeT S x.f1 := by unfold tokT; rw [if_neg (by omega), if_pos c2]
     by_cases c : x.f1 = nd.name
     ·
      rw [if_pos c]
      exact ⟨⟨[x], rfl⟩, run_ok _ _ _ _ (by rw [htk, close_pop S stk nd x.f1 hS c.symm])⟩
     ·
      rw [if_neg c]
      show finT n (runT S (x :: l)) = _
      rw [run_err S x l 23 (by rw [htk]; unfold closeT; rw [hlast]; simp only; rw [if_neg (fun e => c e.symm)]) (by decide)]
      rfl
    ·
     rw [if_neg c2]
     have c1 : x.f0 = 1 := by rcases hK x (List.mem_cons_self ..) with h | h | h <;> first | exact h | exact absurd h ‹_›
     have htk : tokT S x = openT S x := by unfold tokT; rw [if_pos c1]
     by_cases cs : blankL nd.said.data.toList = false
     ·
      rw [if_pos cs]
      show finT n (runT S (x :: l)) = _
      rw [run_err S x l 23 (by rw [htk]; exact open_said S x nd hlast cs) (by decide)]
      rfl
     ·
      rw [if_neg cs]
      have cs' : blankL nd.said.data.toList = true := by cases h : blankL nd.said.data.toList; exact absurd h cs; rfl
      have hoh := open_head S x hd (fun up h => by rw [hlast] at h; obtain rfl := Option.some.inj h; exact cs')
      have hsp : sp0T S = nd.sp := by unfold sp0T; rw [hlast]
      rw [hsp, hlen] at hoh
      cases hh : headT nd.sp (stk.length + 1) S.many S.space x with
      | error e =>
       rw [hh] at hoh
       simp only at hoh ⊢
       show finT n (runT S (x :: l)) = _
       rw [run_err S x l e (by rw [htk]; exact hoh.1) hoh.2]
       rfl
      | ok q =>
       obtain ⟨nd2, m2, inn⟩ := q
       rw [hh] at hoh
       simp only at hoh ⊢
       obtain ⟨ho, hspc, hnm⟩ := hoh
       have hup : (upT S inn).1 = { S with stack := stk ++ [{ nd with hask := true }] } := by
        unfold upT
        rw [hlast]
        simp only
        rw [hS, set_snoc]
       rw [hup] at ho hspc
       simp only at ho hspc
       subst hspc
       by_cases c4 : x.f4 = true
       ·
        rw [if_pos c4] at ho ⊢
        have hcl := close_pop { S with stack := (stk ++ [{ nd with hask := true }]) ++ [nd2], many := m2 } (stk ++ [{ nd with hask := true }]) nd2 x.f1 rfl hnm
        rw [hcl, popT_snoc] at ho
        have hr : runT S (x :: l) = _ := run_ok _ _ _ _ (htk.trans ho)
        have := ih l stk { nd with ks := nd.ks ++ [valT nd2], hask := true } { S with stack := stk ++ [{ nd with ks := nd.ks ++ [valT nd2], hask := true }], many := m2 } hl' rfl hd hK'
        revert this
        simp only
        generalize loopR n k { nd with ks := nd.ks ++ [valT nd2], hask := true } stk.length m2 S.space l = R
        intro this
        cases R with
        | error z => show finT n (runT S (x :: l)) = _; rw [hr]; exact this
        | ok q =>
         obtain ⟨v, m, l2⟩ := q
         obtain ⟨⟨p, hp⟩, h2⟩ := this
         exact ⟨⟨x :: p, by rw [hp]; rfl⟩, hr.trans (Eq.trans h2 (congrArg (fun X => runT X l2) (popT_of S _ stk v m rfl rfl rfl)))⟩
       ·
        rw [if_neg c4] at ho ⊢
        have hr : runT S (x :: l) = _ := run_ok _ _ _ _ (htk.trans ho)
        have h1 := ih l (stk ++ [{ nd with hask := true }]) nd2 { S with stack := (stk ++ [{ nd with hask := true }]) ++ [nd2], many := m2 } hl' rfl hd hK'
        revert h1
        simp only [List.length_append, List.length_singleton]
        cases hR1 : loopR n k nd2 (stk.length + 1) m2 S.space l with
        | error z =>
         intro h1
         show finT n (runT S (x :: l)) = _
         rw [hr]
         exact h1
        | ok q =>
         obtain ⟨v, m3, l3⟩ := q
         rintro ⟨⟨p, hp⟩, h1⟩
         rw [popT_snoc] at h1
         have h2 := ih l3 stk { nd with ks := nd.ks ++ [v], hask := true } { S with stack := stk ++ [{ nd with ks := nd.ks ++ [v], hask := true }], many := m3 } (by rw [hp, List.length_append] at hl'; omega) rfl hd (fun t ht => hK' t (by rw [hp]; exact List.mem_append_right _ ht))
         revert h2
         simp only
         generalize loopR n k { nd with ks := nd.ks ++ [v], hask := true } stk.length m3 S.space l3 = R
         intro h2
         cases R with
         | error z => show finT n (runT S (x :: l)) = _; rw [hr]; refine Eq.trans (congrArg _ h1) ?_; exact h2
         | ok q =>
          obtain ⟨v', m', l4⟩ := q
          obtain ⟨⟨p', hp'⟩, h2⟩ := h2
          exact ⟨⟨x :: (p ++ p'), by rw [hp, hp']; simp⟩, hr.trans (Eq.trans h1 (Eq.trans h2 (congrArg (fun X => runT X l4) (popT_of S _ stk v' m' rfl rfl rfl))))⟩
theorem top_run (n : Int) : ∀ (k : Nat) (toks : List C.S44) (S : Bst), toks.length ≤ k → S.stack = [] → Kinds toks → finT n (runT S toks) = topR n k S.done S.root S.many S.space toks := by
 intro k
 induction k with
 | zero =>
  intro toks S hl hS _
  obtain rfl : toks = [] := List.length_eq_zero_iff.1 (by omega)
  rw [runT, finT, topR]
 | succ k ih =>
  intro toks S hl hS hK
  cases toks with
  | nil => rw [runT, finT, topR]
  | cons x l =>
   have hlast : S.stack.getLast? = none := by rw [hS]; rfl
   have hl' : l.length ≤ k := by simp only [List.length_cons] at hl; omega
   have hK' : Kinds l := fun t ht => hK t (List.mem_cons_of_mem _ ht)
   rw [topR]
   by_cases c : x.f0 = 3 ∧ blankL x.f2.data.toList = true
   ·
    rw [if_pos c, run_ok S S x l (by unfold tokT; rw [if_neg (by omega), if_neg (by omega)]; unfold sayT; rw [hlast]; simp only; rw [if_pos c.2])]
    exact ih l S hl' hS hK'
   ·
    rw [if_neg c]
    by_cases c1 : x.f0 ≠ 1 ∨ S.done = true
    ·
     rw [if_pos c1, run_err S x l 23 ?_ (by decide)]
     ·
      rfl
     ·
      unfold tokT
      by_cases e1 : x.f0 = 1
      ·
       rw [if_pos e1]
       have hd : S.done = true := by rcases c1 with h | h; exact absurd e1 h; exact h
       unfold openT
       cases ha : attsT x.f3 (sp0T S) [] with
       | none => rfl
       | some q => simp only; rw [if_pos (.inr (.inr hd))]
      ·
       rw [if_neg e1]
       by_cases e2 : x.f0 = 2
       ·
        rw [if_pos e2]; unfold closeT; rw [hlast]
       ·
        rw [if_neg e2]; unfold sayT; rw [hlast]; simp only
        have e3 : x.f0 = 3 := by rcases hK x (List.mem_cons_self ..) with h | h | h <;> first | exact h | exact absurd h ‹_›
        rw [if_neg (fun h => c ⟨e3, h⟩)]
    ·
     rw [if_neg c1]
     have e1 : x.f0 = 1 := Classical.byContradiction fun h => c1 (.inl h)
     have hd : S.done = false := by cases h : S.done; rfl; exact absurd (.inr h) c1
     have htk : tokT S x = openT S x := by unfold tokT; rw [if_pos e1]
     have hoh := open_head S x hd (fun up h => by rw [hlast] at h; cases h)
     have hsp : sp0T S = [] := by unfold sp0T; rw [hlast]
     rw [hsp, hS, List.length_nil] at hoh
     cases hh : headT [] 0 S.many S.space x with
     | error e =>
      rw [hh] at hoh
      simp only at hoh ⊢
      rw [run_err S x l e (by rw [htk]; exact hoh.1) hoh.2]
      rfl
     | ok q =>
      obtain ⟨nd, m2, inn⟩ := q
      rw [hh] at hoh
      simp only at hoh ⊢
      obtain ⟨ho, hspc, hnm⟩ := hoh
      have hup : (upT S inn).1 = { S with space := inn } := by
       unfold upT
       rw [hlast]
      rw [hup] at ho
      simp only [hS, List.nil_append] at ho
      by_cases c4 : x.f4 = true
      ·
       rw [if_pos c4] at ho ⊢
       have hcl := close_pop { S with stack := [nd], space := inn, many := m2 } [] nd x.f1 rfl hnm
       rw [hcl] at ho
       rw [run_ok _ _ _ _ (htk.trans ho)]
       exact ih l (popT { S with stack := [nd], space := inn, many := m2 } [] (valT nd) m2) hl' rfl hK'
      ·
       rw [if_neg c4] at ho ⊢
       rw [run_ok _ _ _ _ (htk.trans ho)]
       have h1 := loop_run n k l [] nd { S with stack := [nd], space := inn, many := m2 } hl' rfl hd hK'
       revert h1
       simp only [List.length_nil]
       cases hR1 : loopR n k nd 0 m2 inn l with
       | error z => intro h1; exact h1
       | ok q =>
        obtain ⟨v, m3, l3⟩ := q
        rintro ⟨⟨p, hp⟩, h1⟩
        rw [h1]
        exact ih l3 _ (by rw [hp, List.length_append] at hl'; omega) rfl (fun t ht => hK' t (by rw [hp]; exact List.mem_append_right _ ht))
end Go.Proofs.YtknfpggiigncpaaGreatDoor.T
