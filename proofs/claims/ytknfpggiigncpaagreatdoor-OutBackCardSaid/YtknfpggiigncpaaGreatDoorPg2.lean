/- Plain: a written tree's tokens, run, come to the tree. -/
import Derived.Test.YtknfpggiigncpaaGreatDoorTr1
import Derived.Test.YtknfpggiigncpaaGreatDoorDt1
import Derived.Test.YtknfpggiigncpaaGreatDoorOt3
set_option linter.unusedVariables false
set_option linter.unusedSimpArgs false
namespace Go.Proofs.YtknfpggiigncpaaGreatDoor.G
open Go.RowKit P E T
open C (S44 S77 textZ attV Att AttOk)
theorem s24_eta (v : S24) : (⟨v.f0, v.f1, v.f2⟩ : S24) = v := by cases v; rfl
theorem ba_of (x : ByteArray) : (⟨x.data.toList.toArray⟩ : ByteArray) = x := by simp
theorem split_plain (l : List UInt8) (h : ∀ c ∈ l, c ≠ 58) : D.splitT l = ([], l, true) := by
 have hc : Lib.cut l [58] = (l, [], false) := by
  unfold Lib.cut
  rw [C.index_byte_no 58 l h]
  rfl
 unfold D.splitT
 rw [hc]
 rfl
theorem split_pre (l : List UInt8) (h : ∀ c ∈ l, c ≠ 58) (h0 : l ≠ []) : D.splitT (112 :: 58 :: l) = ([112], l, true) := by
 have hc : Lib.cut (112 :: 58 :: l) [58] = ([112], l, true) := C.cut_at 58 [112] l (by decide)
 have hi : Lib.indexByte l 58 = -1 := by rw [← Lib.index_one]; exact C.index_byte_no 58 l h
 have he : l.isEmpty = false := by cases l; exact absurd rfl h0; rfl
 unfold D.splitT
 rw [hc]
 simp [hi, he]
def prefT (st : Sty) : List UInt8 := if st.pre = [] then [] else [112]
theorem split_nm {st : Sty} (hst : StyOk st) {a : ByteArray} (h : ∀ c ∈ a.data.toList, c ≠ 58) (h0 : a.data.toList ≠ []) : D.splitT (nmT st a) = (prefT st, a.data.toList, true) := by
 unfold nmT prefT
 rcases hst.pre with e | e
 ·
  rw [e, if_pos rfl]
  exact split_plain _ h
 ·
  rw [e, if_neg (by simp)]
  exact split_pre _ h h0
theorem atts_run (st : Sty) : ∀ (l : List S24) (sp : List (List UInt8 × List UInt8)) (ks : List S24), (∀ k ∈ l, attrB k = true ∧ AtOk k) → attsT ((l.map (attOf st)).map attV) sp ks = some (sp, ks ++ l)
 | [], sp, ks, _ => by simp [attsT]
 | k :: l, sp, ks, h => by
  obtain ⟨h1, h2⟩ := h k (by simp)
  rw [List.map_cons, List.map_cons, attsT]
  have e1 : (attV (attOf st k)).f0.data.toList = atL k := by simp [attV, attOf]
  rw [e1, if_neg h2.xml, split_plain _ h2.col]
  simp only
  rw [if_neg (by simp), if_neg (by simp)]
  rw [atts_run st l sp _ (fun x hx => h x (List.mem_cons_of_mem _ hx)), List.append_assoc]
  have e2 : (⟨(⟨#[64]⟩ : ByteArray) ++ (attV (attOf st k)).f0, (attV (attOf st k)).f1, []⟩ : S24) = k := by
   obtain ⟨a, b, q⟩ := k
   have hq : q = [] := h2.kids
   subst hq
   have h3 : attrB ⟨a, b, []⟩ = true := h1
   unfold attrB at h3
   have e3 : (⟨#[64]⟩ : ByteArray) ++ (attV (attOf st ⟨a, b, []⟩)).f0 = a := by
    apply ByteArray.ext
    apply Array.toList_inj.1
    have : (attV (attOf st ⟨a, b, []⟩)).f0 = ⟨(a.data.toList.drop 1).toArray⟩ := rfl
    rw [this]
    simp only at h3
    cases hl : a.data.toList with
    | nil => rw [hl] at h3; cases h3
    | cons c r =>
     rw [hl] at h3
     have hc : c = 64 := beq_iff_eq.1 h3
     subst hc
     simp
   rw [e3]
   have e4 : (attV (attOf st ⟨a, b, []⟩)).f1 = b := by simp [attV, attOf]
   rw [e4]
  rw [e2]
  rfl
theorem open_step {S S1 : Bst} {t : S44} {sp1 : List (List UInt8 × List UInt8)} {ks : List S24} {px lx U : List UInt8} (h0 : t.f0 = 1) (hatt : attsT t.f3 (sp0T S) [] = some (sp1, ks)) (hsplit : D.splitT t.f1.data.toList = (px, lx, true)) (hget : spGet sp1 px = some U)
  (hd : S.done = false) (hup : upT S ⟨U.toArray⟩ = (S1, 0)) (hspace : S1.space = ⟨U.toArray⟩) (hdeep : S.stack.length < 64) (hmany : S.many + ks.length + 1 ≤ 20000) :
  tokT S t = if t.f4 = true then closeT { S1 with stack := S1.stack ++ [⟨⟨lx.toArray⟩, ⟨#[]⟩, ks, t.f1, sp1, ⟨#[]⟩, false⟩], many := S.many + ks.length + 1 } t.f1 else ({ S1 with stack := S1.stack ++ [⟨⟨lx.toArray⟩, ⟨#[]⟩, ks, t.f1, sp1, ⟨#[]⟩, false⟩], many := S.many + ks.length + 1 }, 0) := by
 unfold tokT
 rw [if_pos h0]
 unfold openT
 rw [hatt]
 simp only
 rw [hsplit]
 simp only
 rw [hget, Option.getD_some, hup]
 simp only
 rw [if_neg (by simp [hd]), if_neg (by simp), if_neg (by rw [hspace]; simp), if_neg (by omega), if_neg (by omega)]
theorem open_self {S S1 : Bst} {t : S44} {sp1 : List (List UInt8 × List UInt8)} {ks : List S24} {px lx U : List UInt8} (h0 : t.f0 = 1) (hatt : attsT t.f3 (sp0T S) [] = some (sp1, ks)) (hsplit : D.splitT t.f1.data.toList = (px, lx, true)) (hget : spGet sp1 px = some U)
  (hd : S.done = false) (hup : upT S ⟨U.toArray⟩ = (S1, 0)) (hspace : S1.space = ⟨U.toArray⟩) (hdeep : S.stack.length < 64) (hmany : S.many + ks.length + 1 ≤ 20000) (hself : t.f4 = true) (stk : List Nd) (hs1 : S1.stack = stk) (v : S24) (hv : v = ⟨⟨lx.toArray⟩, ⟨#[]⟩, ks⟩) :
  tokT S t = (popT S1 stk v (S.many + ks.length + 1), 0) := by
 rw [open_step h0 hatt hsplit hget hd hup hspace hdeep hmany, if_pos hself, close_pop _ stk ⟨⟨lx.toArray⟩, ⟨#[]⟩, ks, t.f1, sp1, ⟨#[]⟩, false⟩ t.f1 (by simp only [hs1]) rfl, hv]
 exact congrArg (fun x => (x, (0 : Int))) (popT_of S1 _ stk _ _ rfl rfl rfl)
theorem runE_cons {S S1 : Bst} {t : S44} {l : List S44} (h : tokT S t = (S1, 0)) : runE S (t :: l) = runE S1 l := by
 rw [runE, h, if_pos rfl]
theorem blankL_app (a b : List UInt8) (ha : blankL a = true) (hb : blankL b = true) : blankL (a ++ b) = true := by
 unfold blankL at *
 rw [List.all_append, ha, hb]
 rfl
theorem ba_app_list (a b : ByteArray) : (a ++ b).data.toList = a.data.toList ++ b.data.toList := by simp
structure Top (st : Sty) (U : List UInt8) (S : Bst) (stk : List Nd) (up : Nd) : Prop where
 stack : S.stack = stk ++ [up]
 don : S.done = false
 space : S.space = ⟨U.toArray⟩
 sp : spGet up.sp (prefT st) = some U
 said : blankL up.said.data.toList = true
theorem up_top {st : Sty} {U : List UInt8} {S : Bst} {stk : List Nd} {up : Nd} (h : Top st U S stk up) : upT S ⟨U.toArray⟩ = ({ S with stack := stk ++ [{ up with hask := true }] }, 0) := by
 unfold upT
 rw [h.stack, last_snoc]
 simp only
 rw [set_snoc, h.said]
 rfl
theorem sp0_top {st : Sty} {U : List UInt8} {S : Bst} {stk : List Nd} {up : Nd} (h : Top st U S stk up) : sp0T S = up.sp := by
 unfold sp0T
 rw [h.stack, last_snoc]
theorem say_text {S : Bst} {stk : List Nd} {up : Nd} (hS : S.stack = stk ++ [up]) (v : List UInt8) (h : up.hask = false ∨ blankL v = true) (l : List S44) : ∃ said : ByteArray, said.data.toList = up.said.data.toList ++ v ∧ runE S (textZ v ++ l) = runE { S with stack := stk ++ [{ up with said := said }] } l := by
 unfold textZ
 by_cases hv : v = []
 ·
  rw [if_pos hv]
  subst hv
  refine ⟨up.said, by simp, ?_⟩
  have : ({ S with stack := stk ++ [{ up with said := up.said }] } : Bst) = S := by
   cases S
   simp only at hS
   subst hS
   rfl
  rw [this]
  rfl
 ·
  rw [if_neg hv]
  refine ⟨up.said ++ ⟨v.toArray⟩, by rw [ba_app_list], ?_⟩
  rw [List.singleton_append]
  apply runE_cons
  unfold tokT
  simp only
  rw [if_neg (by decide), if_neg (by decide)]
  unfold sayT
  rw [hS, last_snoc]
  simp only
  rw [set_snoc]
  have : (up.hask && !blankL v) = false := by
   rcases h with h | h <;> rw [h]
   ·
    rfl
   ·
    simp
  rw [this]
  rfl
theorem run_nil (S : Bst) : runE S [] = .ok S := rfl
theorem body_run {st : Sty} (hst : StyOk st) {d : Nat} {U : List UInt8} (kids : ∀ (l : List S24), (∀ k ∈ l, attrB k = false ∧ okG st d k) → ∀ (S : Bst) (stk : List Nd) (up : Nd), Top st U S stk up → S.many + cntL l ≤ 20000 → stk.length + 1 + d ≤ 64 →
   ∃ said : ByteArray, blankL said.data.toList = true ∧ (l = [] → said = up.said) ∧ runE S (kidsZ st l) = .ok { S with stack := stk ++ [{ up with ks := up.ks ++ l, hask := up.hask || !l.isEmpty, said := said }], many := S.many + cntL l })
  {v : S24} (hv : okG st (d + 1) v) (S : Bst) (stk : List Nd) (sp1 : List (List UInt8 × List UInt8)) (hS : S.stack = stk ++ [⟨v.f0, ⟨#[]⟩, v.f2.takeWhile attrB, ⟨(nmT st v.f0).toArray⟩, sp1, ⟨#[]⟩, false⟩]) (hdn : S.done = false) (hsp : S.space = ⟨U.toArray⟩) (hget : spGet sp1 (prefT st) = some U)
  (hm : S.many + cntL (v.f2.dropWhile attrB) ≤ 20000) (hd : stk.length + 1 + d ≤ 64) (l : List S44) :
  runE S (saidZ v.f1 v.f2 ++ (kidsZ st v.f2 ++ [closeZ st v.f0])) = .ok (popT S stk v (S.many + cntL (v.f2.dropWhile attrB))) := by
 rw [kidsZ_els]
 obtain ⟨x1, x2, x3, x4, x5, x6, x7, x8, x9⟩ := hv
 have hclose : ∀ (S2 : Bst) (nd : Nd), S2.stack = stk ++ [nd] → nd.name = ⟨(nmT st v.f0).toArray⟩ → valT nd = v → runE S2 [closeZ st v.f0] = .ok (popT S2 stk v S2.many) := by
  intro S2 nd h1 h2 h3
  have : tokT S2 (closeZ st v.f0) = (popT S2 stk v S2.many, 0) := by
   unfold tokT closeZ
   simp only
   rw [if_neg (by decide), if_pos trivial, close_pop S2 stk nd _ h1 h2, h3]
  rw [runE_cons this]
  rfl
 by_cases hno : noEl v.f2 = true
 ·
  have hdw : v.f2.dropWhile attrB = [] := List.isEmpty_iff.1 hno
  have htw : v.f2.takeWhile attrB = v.f2 := by
   have := List.takeWhile_append_dropWhile (p := attrB) (l := v.f2)
   rw [hdw, List.append_nil] at this
   exact this
  rw [hdw, saidZ, if_pos hno]
  obtain ⟨said, y1, y2⟩ := say_text hS v.f1.data.toList (.inl rfl) (kidsZ st [] ++ [closeZ st v.f0])
  rw [y2]
  have y3 : said = v.f1 := by
   apply ByteArray.ext
   apply Array.toList_inj.1
   rw [y1]
   rfl
  rw [y3]
  rw [show kidsZ st [] ++ [closeZ st v.f0] = [closeZ st v.f0] from by rw [kidsZ_nil]; rfl]
  rw [hclose _ _ rfl rfl (by
   unfold valT
   simp only [Bool.false_eq_true, if_false]
   rw [htw]
   exact s24_eta v)]
  congr 1
  have h0 : S.many + cntL [] = S.many := by rw [cntL]; rfl
  rw [h0]
  exact popT_of S { S with stack := _ } stk v _ rfl rfl rfl
 ·
  have hno2 : noEl v.f2 = false := by simpa using hno
  rw [saidZ, if_neg hno, List.nil_append]
  obtain ⟨said, y1, _, y3⟩ := kids (v.f2.dropWhile attrB) x8 S stk _ ⟨hS, hdn, hsp, hget, rfl⟩ hm hd
  rw [runE_app _ _ _ _ y3]
  rw [hclose _ _ rfl rfl (by
   have he : (v.f2.dropWhile attrB).isEmpty = false := hno2
   unfold valT
   simp only [he, Bool.not_false, Bool.or_true, if_true]
   rw [List.takeWhile_append_dropWhile]
   have hf1 : v.f1 = ⟨#[]⟩ := by
    apply ByteArray.ext
    apply Array.toList_inj.1
    exact x9 hno2
   obtain ⟨a, b, q⟩ := v
   simp only at hf1
   subst hf1
   rfl)]
  rfl
theorem cnt_split (q : List S24) (h : ∀ k ∈ q.takeWhile attrB, k.f2 = []) : cntL q = (q.takeWhile attrB).length + cntL (q.dropWhile attrB) := by
 have key : ∀ (l m : List S24), (∀ k ∈ l, k.f2 = []) → cntL (l ++ m) = l.length + cntL m := by
  intro l
  induction l with
  | nil => intro m _; simp
  | cons v l ih =>
   intro m hl
   obtain ⟨a, b, c⟩ := v
   have hc : c = [] := hl ⟨a, b, c⟩ (by simp)
   subst hc
   rw [List.cons_append, cntL, ih m (fun k hk => hl k (List.mem_cons_of_mem _ hk))]
   simp only [List.length_cons, cntL]
   omega
 have := key (q.takeWhile attrB) (q.dropWhile attrB) h
 rw [List.takeWhile_append_dropWhile] at this
 exact this
theorem self_val (v : S24) (htw : v.f2.takeWhile attrB = v.f2) (h : v.f1.data.toList = []) : v = ⟨⟨v.f0.data.toList.toArray⟩, ⟨#[]⟩, v.f2.takeWhile attrB⟩ := by
 rw [htw, ba_of]
 have hf1 : v.f1 = ⟨#[]⟩ := by
  apply ByteArray.ext
  apply Array.toList_inj.1
  exact h
 obtain ⟨a, b, q⟩ := v
 simp only at hf1
 subst hf1
 rfl
theorem el_run {st : Sty} (hst : StyOk st) {d : Nat} {U : List UInt8} (kids : ∀ (l : List S24), (∀ k ∈ l, attrB k = false ∧ okG st d k) → ∀ (S : Bst) (stk : List Nd) (up : Nd), Top st U S stk up → S.many + cntL l ≤ 20000 → stk.length + 1 + d ≤ 64 →
   ∃ said : ByteArray, blankL said.data.toList = true ∧ (l = [] → said = up.said) ∧ runE S (kidsZ st l) = .ok { S with stack := stk ++ [{ up with ks := up.ks ++ l, hask := up.hask || !l.isEmpty, said := said }], many := S.many + cntL l })
  {v : S24} (hv : okG st (d + 1) v) (S : Bst) (stk : List Nd) (up : Nd) (hT : Top st U S stk up) (hm : S.many + (1 + cntL v.f2) ≤ 20000) (hd : stk.length + 1 + (d + 1) ≤ 64) :
  runE S (elZ st [] v) = .ok { S with stack := stk ++ [{ up with ks := up.ks ++ [v], hask := true }], many := S.many + (1 + cntL v.f2) } := by
 have hv' := hv
 obtain ⟨x1, x2, x3, x4, x5, x6, x7, x8, x9⟩ := hv
 have hcs := cnt_split v.f2 (fun k hk => (x5 k hk).kids)
 have hatt : attsT ((attsT' st [] v.f2).map attV) (sp0T S) [] = some (up.sp, v.f2.takeWhile attrB) := by
  rw [sp0_top hT]
  show attsT (((v.f2.takeWhile attrB).map (attOf st)).map attV) up.sp [] = _
  rw [atts_run st _ _ _ (fun k hk => ⟨tw_all v.f2 k hk, x5 k hk⟩)]
  rfl
 have hlen : S.stack.length < 64 := by rw [hT.stack]; simp; omega
 have hstep := fun self => open_step (S := S) (t := openZ st [] v.f0 v.f2 self) rfl hatt (split_nm hst x2 x3) hT.sp hT.don (up_top hT) hT.space hlen (by omega)
 rw [ba_of] at hstep
 unfold elZ tagZ
 by_cases hself : selfT st v.f1 v.f2 = true
 ·
  rw [if_pos hself]
  unfold selfT at hself
  simp only [Bool.and_eq_true] at hself
  obtain ⟨⟨_, h2⟩, h3⟩ := hself
  have hdw : v.f2.dropWhile attrB = [] := List.isEmpty_iff.1 h2
  have htw : v.f2.takeWhile attrB = v.f2 := by
   have := List.takeWhile_append_dropWhile (p := attrB) (l := v.f2)
   rw [hdw, List.append_nil] at this
   exact this
  have hval := self_val v htw (List.isEmpty_iff.1 h3)
  have hs := open_self (S := S) (t := openZ st [] v.f0 v.f2 true) rfl hatt (split_nm hst x2 x3) hT.sp hT.don (up_top hT) hT.space hlen (by omega) rfl _ rfl v hval
  rw [runE_cons hs, run_nil, popT_snoc]
  rw [hcs, hdw, cntL]
  congr 2
  omega
 ·
  rw [if_neg hself]
  have hs := hstep false
  rw [show (openZ st [] v.f0 v.f2 false).f4 = false from rfl, if_neg (by simp)] at hs
  rw [List.singleton_append, runE_cons hs]
  refine (body_run hst kids hv' _ (stk ++ [{ up with hask := true }]) up.sp rfl ?_ ?_ hT.sp ?_ ?_ []).trans ?_
  ·
   exact hT.don
  ·
   exact hT.space
  ·
   show S.many + _ + 1 + _ ≤ _
   omega
  ·
   simp
   omega
  rw [popT_snoc]
  simp only
  rw [hcs]
  congr 2
  omega
theorem kids_run {st : Sty} (hst : StyOk st) {U : List UInt8} : ∀ (d : Nat) (l : List S24), (∀ k ∈ l, attrB k = false ∧ okG st d k) → ∀ (S : Bst) (stk : List Nd) (up : Nd), Top st U S stk up → S.many + cntL l ≤ 20000 → stk.length + 1 + d ≤ 64 →
   ∃ said : ByteArray, blankL said.data.toList = true ∧ (l = [] → said = up.said) ∧ runE S (kidsZ st l) = .ok { S with stack := stk ++ [{ up with ks := up.ks ++ l, hask := up.hask || !l.isEmpty, said := said }], many := S.many + cntL l }
 | d, [], _, S, stk, up, hT, hm, hd => by
  refine ⟨up.said, hT.said, fun _ => rfl, ?_⟩
  have hS := hT.stack
  cases S
  simp only at hS
  subst hS
  simp [kidsZ_nil, run_nil, cntL]
 | 0, v :: l, h, S, stk, up, hT, hm, hd => (h v (by simp)).2.elim
 | d + 1, v :: l, h, S, stk, up, hT, hm, hd => by
  obtain ⟨h1, h2⟩ := h v (by simp)
  have hc : cntL (v :: l) = 1 + cntL v.f2 + cntL l := by obtain ⟨a, b, q⟩ := v; rw [cntL]
  rw [hc] at hm
  have he := el_run hst (kids_run hst d) h2 S stk up hT (by omega) (by omega)
  rw [kidsZ_cons st v l h1, runE_app _ _ _ _ he]
  have hg : blankL st.gap = true := by
   unfold blankL
   rw [List.all_eq_true]
   exact hst.gap
  obtain ⟨said, y1, y2⟩ := say_text (S := { S with stack := stk ++ [{ up with ks := up.ks ++ [v], hask := true }], many := S.many + (1 + cntL v.f2) }) rfl st.gap (.inr hg) (kidsZ st l)
  have hsb : blankL said.data.toList = true := by
   rw [y1]
   exact blankL_app _ _ hT.said hg
  obtain ⟨said2, z1, z2, z3⟩ := kids_run hst (d + 1) l (fun k hk => h k (List.mem_cons_of_mem _ hk)) { S with stack := stk ++ [{ up with ks := up.ks ++ [v], hask := true, said := said }], many := S.many + (1 + cntL v.f2) } stk { up with ks := up.ks ++ [v], hask := true, said := said } ⟨rfl, hT.don, hT.space, hT.sp, hsb⟩ (by simp only; omega) hd
  refine ⟨said2, z1, fun h => (by cases h), ?_⟩
  rw [y2, z3, hc]
  simp only [List.append_assoc, List.singleton_append, Bool.true_or, List.isEmpty_cons, Bool.not_false, Bool.or_true]
  congr 2
  omega
def rootA (st : Sty) (q : UInt8) (val raw : List UInt8) : Att := ⟨if st.pre = [] then [120, 109, 108, 110, 115] else [120, 109, 108, 110, 115, 58, 112], raw, val, q⟩
theorem root_atts {st : Sty} (hst : StyOk st) (q : UInt8) (raw U : List UInt8) (l : List S24) (h : ∀ k ∈ l, attrB k = true ∧ AtOk k) :
  attsT ((rootA st q U raw :: l.map (attOf st)).map attV) [] [] = some ([(prefT st, U)], l) := by
 rw [List.map_cons, attsT]
 unfold rootA prefT
 rcases hst.pre with e | e
 ·
  rw [e, if_pos rfl, if_pos rfl]
  have e1 : (attV ⟨[120, 109, 108, 110, 115], raw, U, q⟩).f0.data.toList = [120, 109, 108, 110, 115] := rfl
  rw [e1, if_pos rfl, atts_run st _ _ _ h]
  simp [attV]
 ·
  rw [e]
  have hne : ¬ ([112, 58] : List UInt8) = [] := by simp
  simp only [hne, if_false]
  have e1 : (attV ⟨[120, 109, 108, 110, 115, 58, 112], raw, U, q⟩).f0.data.toList = [120, 109, 108, 110, 115, 58, 112] := rfl
  have e2 : D.splitT [120, 109, 108, 110, 115, 58, 112] = ([120, 109, 108, 110, 115], [112], true) := by decide +kernel
  rw [e1, if_neg (by decide), e2, if_pos ⟨rfl, rfl⟩, atts_run st _ _ _ h]
  simp [attV]
theorem root_run {st : Sty} (hst : StyOk st) {d : Nat} {q : UInt8} {raw U : List UInt8} {v : S24} (hv : okG st (d + 1) v) (hm : 1 + cntL v.f2 ≤ 20000) (hd : d + 1 ≤ 64) :
  runE bst0 (elZ st [rootA st q U raw] v) = .ok ⟨[], v, ⟨U.toArray⟩, true, 1 + cntL v.f2⟩ := by
 have hv' := hv
 obtain ⟨x1, x2, x3, x4, x5, x6, x7, x8, x9⟩ := hv
 have hcs := cnt_split v.f2 (fun k hk => (x5 k hk).kids)
 have hatt : attsT ((attsT' st [rootA st q U raw] v.f2).map attV) (sp0T bst0) [] = some ([(prefT st, U)], v.f2.takeWhile attrB) := by
  show attsT ((rootA st q U raw :: (v.f2.takeWhile attrB).map (attOf st)).map attV) [] [] = _
  exact root_atts hst q raw U _ (fun k hk => ⟨tw_all v.f2 k hk, x5 k hk⟩)
 have hget : spGet [(prefT st, U)] (prefT st) = some U := by
  unfold spGet
  simp
 have hup : upT bst0 ⟨U.toArray⟩ = ({ bst0 with space := ⟨U.toArray⟩ }, 0) := rfl
 have hm0 : (v.f2.takeWhile attrB).length + 1 ≤ 20000 := by omega
 have hstep := fun self => open_step (S := bst0) (t := openZ st [rootA st q U raw] v.f0 v.f2 self) rfl hatt (split_nm hst x2 x3) hget rfl hup rfl (by decide) (by show 0 + _ + 1 ≤ _; omega)
 rw [ba_of] at hstep
 unfold elZ tagZ
 by_cases hself : selfT st v.f1 v.f2 = true
 ·
  rw [if_pos hself]
  unfold selfT at hself
  simp only [Bool.and_eq_true] at hself
  obtain ⟨⟨_, h2⟩, h3⟩ := hself
  have hdw : v.f2.dropWhile attrB = [] := List.isEmpty_iff.1 h2
  have htw : v.f2.takeWhile attrB = v.f2 := by
   have := List.takeWhile_append_dropWhile (p := attrB) (l := v.f2)
   rw [hdw, List.append_nil] at this
   exact this
  have hval := self_val v htw (List.isEmpty_iff.1 h3)
  have hs := open_self (S := bst0) (t := openZ st [rootA st q U raw] v.f0 v.f2 true) rfl hatt (split_nm hst x2 x3) hget rfl hup rfl (by decide) (by show 0 + _ + 1 ≤ _; omega) rfl [] rfl v hval
  rw [runE_cons hs, run_nil]
  unfold popT bst0
  simp only [List.getLast?_nil]
  rw [hcs, hdw, cntL]
  congr 2
  omega
 ·
  rw [if_neg hself]
  have hs := hstep false
  rw [show (openZ st [rootA st q U raw] v.f0 v.f2 false).f4 = false from rfl, if_neg (by simp)] at hs
  rw [List.singleton_append, runE_cons hs]
  refine (body_run hst (kids_run hst d) hv' _ [] [(prefT st, U)] rfl rfl rfl hget ?_ ?_ []).trans ?_
  ·
   show 0 + _ + 1 + _ ≤ _
   omega
  ·
   simp
   omega
  unfold popT bst0
  simp only [List.getLast?_nil]
  rw [hcs]
  congr 2
  omega
end Go.Proofs.YtknfpggiigncpaaGreatDoor.G
