/- What is written is read: plain Lean. -/
import Derived.Test.YtknfpggiigncpaaGreatDoorOt5
import Derived.Test.YtknfpggiigncpaaGreatDoorXReg
import Derived.Test.YtknfpggiigncpaaGreatDoorPg2
import Derived.Test.YtknfpggiigncpaaGreatDoorOt15
set_option linter.unusedVariables false
set_option linter.unusedSimpArgs false
section
namespace Go.Proofs.YtknfpggiigncpaaGreatDoor.G
open Go.RowKit P E
open B (Ev ba_ext ba_app drop_at bt_of w_succ toL ext_list sz_list)
open C (Att attTx attsTx attsTx_cons endTx)
open YtknfpggiigncpaaGreatDoorW.PrintWords
def attsG (st : Sty) : List S24 → List UInt8
 | [] => []
 | k :: l => (if attrB k = true then attTx (attOf st k) else []) ++ attsG st l
theorem attsG_app (st : Sty) : ∀ (l m : List S24), attsG st (l ++ m) = attsG st l ++ attsG st m
 | [], m => rfl
 | k :: l, m => by rw [List.cons_append, attsG, attsG, attsG_app st l m, List.append_assoc]
theorem attsG_at (st : Sty) : ∀ (l : List S24), (∀ k ∈ l, attrB k = true) → attsG st l = attsTx (l.map (attOf st))
 | [], _ => rfl
 | k :: l, h => by rw [attsG, if_pos (h k (by simp)), attsG_at st l (fun x hx => h x (List.mem_cons_of_mem _ hx)), List.map_cons, attsTx_cons]
theorem attsG_el (st : Sty) : ∀ (l : List S24), (∀ k ∈ l, attrB k = false) → attsG st l = []
 | [], _ => rfl
 | k :: l, h => by rw [attsG, if_neg (by rw [h k (by simp)]; simp), attsG_el st l (fun x hx => h x (List.mem_cons_of_mem _ hx))]; rfl
theorem attsG_sep (st : Sty) (q : List S24) (h : ∀ k ∈ q.dropWhile attrB, attrB k = false) : attsG st q = attsTx ((q.takeWhile attrB).map (attOf st)) := by
 have := attsG_app st (q.takeWhile attrB) (q.dropWhile attrB)
 rw [List.takeWhile_append_dropWhile, attsG_at st _ (tw_all q), attsG_el st _ h, List.append_nil] at this
 exact this
def baL (l : List UInt8) : ByteArray := ⟨l.toArray⟩
theorem baL_list (l : List UInt8) : (baL l).data.toList = l := by unfold baL; simp
end Go.Proofs.YtknfpggiigncpaaGreatDoor.G
end
section
namespace Go.Proofs.YtknfpggiigncpaaGreatDoor.G
open Go.RowKit P E
open B (Ev ba_ext ba_app drop_at bt_of w_succ toL ext_list sz_list)
open C (Att attTx attsTx attsTx_cons endTx NameOk isLet isNm)
open YtknfpggiigncpaaGreatDoorW.PrintWords
theorem at_cons {k : S24} (h : attrB k = true) : k.f0.data.toList = 64 :: atL k := by
 unfold attrB at h
 unfold atL
 cases e : k.f0.data.toList with
 | nil => rw [e] at h; cases h
 | cons b r =>
  rw [e] at h
  have : b = 64 := beq_iff_eq.1 h
  subst this
  rfl
end Go.Proofs.YtknfpggiigncpaaGreatDoor.G
end
section
namespace Go.Proofs.YtknfpggiigncpaaGreatDoor.G
open Go.RowKit P E T
open B (Ev ba_ext ba_app drop_at bt_of w_succ toL ext_list sz_list)
open C (S44 Att AttOk attTx attsTx attsTx_cons endTx NameOk isLet isNm isDig isSgn rs Run)
open YtknfpggiigncpaaGreatDoorW.PrintWords
def ckO (l : List UInt8) : Prop := (ckL l).2 = 0
theorem ckO_app {l t : List UInt8} (h : ckO l) (k : ckO t) : ckO (l ++ t) := by
 have := ((ck_append l.length l t (Nat.le_refl _)).1 h).2
 unfold ckO
 rw [this]
 exact k
def ascB (b : UInt8) : Bool := decide (b.toNat < 128) && xmlB b.toNat
theorem ckO_asc {l : List UInt8} (h : ∀ b ∈ l, ascB b = true) : ckO l := by
 have := ck_asciis l [] (fun b hb => by have := h b hb; unfold ascB at this; simpa using this)
 rw [List.append_nil] at this
 exact this
theorem ckO_esc {l : List UInt8} (h : goodB l = true) : ckO (escL l) := by
 unfold ckO
 rw [ck_esc l.length l (Nat.le_refl _)]
 unfold goodB at h
 simpa using h
theorem asc_nm : ∀ c : UInt8, isNm c = true → ascB c = true := by
 have : ∀ n : Nat, n < 256 → isNm (UInt8.ofNat n) = true → ascB (UInt8.ofNat n) = true := by decide +kernel
 intro c hc
 have := this c.toNat c.toNat_lt
 rw [show UInt8.ofNat c.toNat = c by simp] at this
 exact this hc
theorem asc_blank : ∀ c : UInt8, blankB c = true → ascB c = true := by
 have : ∀ n : Nat, n < 256 → blankB (UInt8.ofNat n) = true → ascB (UInt8.ofNat n) = true := by decide +kernel
 intro c hc
 have := this c.toNat c.toNat_lt
 rw [show UInt8.ofNat c.toNat = c by simp] at this
 exact this hc
theorem ckO_nm {l : List UInt8} (h : NameOk l) : ckO l := ckO_asc fun c hc => asc_nm c (h.2.1 c hc)
theorem ckO_cons {b : UInt8} {l : List UInt8} (hb : ascB b = true) (h : ckO l) : ckO (b :: l) := ckO_app (l := [b]) (ckO_asc (by intro c hc; rw [List.mem_singleton.1 hc]; exact hb)) h
theorem ckO_nil : ckO [] := rfl
theorem ckO_att {a : Att} (h : NameOk a.nm) (hq : a.q = 34 ∨ a.q = 39) (hr : ckO a.raw) : ckO (attTx a) := by
 have q : ascB a.q = true := by rcases hq with e | e <;> rw [e] <;> decide
 exact ckO_cons (by decide) (ckO_app (ckO_nm h) (ckO_cons (by decide) (ckO_cons q (ckO_app hr (ckO_cons q ckO_nil)))))
theorem ckO_atts : ∀ {l : List Att}, (∀ a ∈ l, ckO (attTx a)) → ckO (attsTx l)
 | [], _ => ckO_nil
 | a :: l, h => by
  rw [attsTx_cons]
  exact ckO_app (h a (by simp)) (ckO_atts fun x hx => h x (List.mem_cons_of_mem _ hx))
theorem ckO_end (b : Bool) : ckO (endTx b) := by cases b <;> rfl
theorem ckO_rem {st : Sty} (h : StyOk st) : ckO st.rem := by rcases h.rem with e | e <;> rw [e] <;> rfl
theorem ckO_cd {st : Sty} (h : StyOk st) : ckO st.cd := by rcases h.cd with e | e <;> rw [e] <;> rfl
theorem ckO_tag {st : Sty} (hst : StyOk st) {d : Nat} (kids : ∀ (l : List S24), (∀ k ∈ l, attrB k = false ∧ okG st d k) → ckO (kidsG st l)) {ra : List Att} {v : S24} (hv : okG st (d + 1) v) (hra : ∀ a ∈ ra, ckO (attTx a)) : ckO (elG st ra v) := by
 obtain ⟨x1, x2, x3, x4, x5, x6, x7, x8, x9⟩ := hv
 have hatt : ckO (attsTx (attsT' st ra v.f2)) := by
  apply ckO_atts
  intro a ha
  rcases List.mem_append.1 ha with ha | ha
  ·
   exact hra a ha
  ·
   obtain ⟨k, hk, rfl⟩ := List.mem_map.1 ha
   exact ckO_att (x5 k hk).nm hst.q (ckO_esc (x5 k hk).good)
 have hbl : ckO st.bl := ckO_asc fun c hc => asc_blank c (hst.bl c hc)
 have hopen : ∀ self, ckO (openTx st ra v.f0 v.f2 self) := fun self => ckO_cons (by decide) (ckO_app (ckO_nm x1) (ckO_app hatt (ckO_app hbl (ckO_end self))))
 unfold elG tagG
 split
 ·
  exact hopen true
 ·
  refine ckO_app (hopen false) (ckO_app (ckO_rem hst) (ckO_app ?_ (ckO_app ?_ (ckO_cons (by decide) (ckO_cons (by decide) (ckO_app (ckO_nm x1) (ckO_cons (by decide) ckO_nil)))))))
  ·
   unfold saidTx
   split
   ·
    exact ckO_app (ckO_esc x4) (ckO_cd hst)
   ·
    exact ckO_nil
  ·
   rw [kidsG_els]
   exact kids _ x8
theorem ckO_kids {st : Sty} (hst : StyOk st) : ∀ (d : Nat) (l : List S24), (∀ k ∈ l, attrB k = false ∧ okG st d k) → ckO (kidsG st l)
 | d, [], _ => by rw [kidsG_nil]; exact ckO_nil
 | 0, v :: l, h => (h v (by simp)).2.elim
 | d + 1, v :: l, h => by
  obtain ⟨h1, h2⟩ := h v (by simp)
  rw [kidsG_cons st v l h1]
  exact ckO_app (ckO_tag hst (ckO_kids hst d) h2 (by intro a ha; cases ha)) (ckO_app (ckO_asc fun c hc => asc_blank c (hst.gap c hc)) (ckO_kids hst (d + 1) l fun k hk => h k (List.mem_cons_of_mem _ hk)))
end Go.Proofs.YtknfpggiigncpaaGreatDoor.G
end
section
namespace Go.Proofs.YtknfpggiigncpaaGreatDoor.G
open Go.RowKit P E T
open B (sz_list)
open C (S44 Att AttOk attTx attsTx attsTx_cons endTx NameOk isLet isNm rs Run readT startT tkT tokR untilT zp)
theorem szl (s : ByteArray) : s.size = s.data.toList.length := by simp
def stO : Sty := ⟨[], 34, [], [], [], [], false⟩
theorem stO_ok : StyOk stO := ⟨.inl rfl, .inl rfl, (by intro c h; cases h), (by intro c h; cases h), .inl rfl, .inl rfl⟩
theorem letB_let : ∀ c : UInt8, (letB c = true → isLet c = true) ∧ (insB c = true → isNm c = true ∧ c ≠ 58) ∧ (letB c = true → insB c = true) := by
 have : ∀ n : Nat, n < 256 → (letB (UInt8.ofNat n) = true → isLet (UInt8.ofNat n) = true) ∧ (insB (UInt8.ofNat n) = true → isNm (UInt8.ofNat n) = true ∧ UInt8.ofNat n ≠ 58) ∧ (letB (UInt8.ofNat n) = true → insB (UInt8.ofNat n) = true) := by decide +kernel
 intro c
 have := this c.toNat c.toNat_lt
 rw [show UInt8.ofNat c.toNat = c by simp] at this
 exact this
theorem nameB_ok {l : List UInt8} (h : nameB l = true) : NameOk l ∧ (∀ c ∈ l, c ≠ 58) ∧ l ≠ [] := by
 cases l with
 | nil => cases h
 | cons b r =>
  simp only [nameB, Bool.and_eq_true, decide_eq_true_eq, List.all_eq_true] at h
  obtain ⟨⟨h1, h2⟩, h3⟩ := h
  have hall : ∀ c ∈ b :: r, insB c = true := by
   intro c hc
   rcases List.mem_cons.1 hc with rfl | hc
   ·
    exact (letB_let c).2.2 h1
   ·
    exact h2 c hc
  exact ⟨⟨⟨b, r, rfl, (letB_let b).1 h1⟩, fun c hc => ((letB_let c).2.1 (hall c hc)).1, by simp only [List.length_cons]; omega⟩, fun c hc => ((letB_let c).2.1 (hall c hc)).2, by simp⟩
theorem attrs_facts : ∀ (l prev : List S24), (∀ k ∈ l, attrB k = true) → attrsOk prev l = true → (∀ k ∈ l, AtOk k) ∧ (l.map atL).Nodup ∧ (∀ k ∈ l, ∀ b ∈ prev, b.f0.data.toList ≠ k.f0.data.toList)
 | [], prev, _, _ => ⟨(by intro k hk; cases hk), List.nodup_nil, (by intro k hk; cases hk)⟩
 | k :: l, prev, ha, h => by
  simp only [attrsOk, attrOk, Bool.and_eq_true] at h
  obtain ⟨⟨⟨⟨⟨h1, h2⟩, h3⟩, h4⟩, h5⟩, h6⟩ := h
  obtain ⟨i1, i2, i3⟩ := attrs_facts l _ (fun x hx => ha x (List.mem_cons_of_mem _ hx)) h6
  have hk := at_cons (ha k (by simp))
  obtain ⟨n1, n2, _⟩ := nameB_ok h1
  refine ⟨?_, ?_, ?_⟩
  ·
   intro x hx
   rcases List.mem_cons.1 hx with rfl | hx
   ·
    refine ⟨n1, n2, ?_, List.isEmpty_iff.1 h4, h3⟩
    intro e
    rw [hk, e] at h2
    simp at h2
   ·
    exact i1 x hx
  ·
   rw [List.map_cons, List.nodup_cons]
   refine ⟨?_, i2⟩
   intro hm
   obtain ⟨x, hx, e⟩ := List.mem_map.1 hm
   apply i3 x hx k (by simp)
   rw [hk, at_cons (ha x (List.mem_cons_of_mem _ hx)), e]
  ·
   intro x hx b hb
   rcases List.mem_cons.1 hx with rfl | hx
   ·
    intro e
    have h8 : (prev.any fun b => b.f0.data.toList == x.f0.data.toList) = false := by simpa using h5
    rw [List.any_eq_false] at h8
    exact h8 b hb (beq_iff_eq.2 e)
   ·
    exact i3 x hx b (List.mem_append_left _ hb)
theorem one_facts {v : S24} (h : oneT v = true) : nameB v.f0.data.toList = true ∧ goodB v.f1.data.toList = true ∧ (v.f2.takeWhile attrB).length ≤ 19 ∧ (noEl v.f2 = false → v.f1.data.toList = []) ∧ (∀ k ∈ v.f2.dropWhile attrB, attrB k = false) ∧ attrsOk [] (v.f2.takeWhile attrB) = true := by
 unfold oneT at h
 rw [take_att, drop_att] at h
 simp only [Bool.and_eq_true, decide_eq_true_eq] at h
 obtain ⟨⟨⟨⟨⟨h1, h2⟩, h3⟩, h4⟩, h5⟩, h6⟩ := h
 refine ⟨h1, h2, h3, ?_, ?_, h6⟩
 ·
  intro hn
  have hlt : attN v.f2 < v.f2.length := by
   have hs := List.takeWhile_append_dropWhile (p := attrB) (l := v.f2)
   have hl := congrArg List.length hs
   rw [List.length_append] at hl
   unfold noEl at hn
   unfold attN
   cases hd : v.f2.dropWhile attrB with
   | nil => rw [hd] at hn; cases hn
   | cons x y => rw [hd, List.length_cons] at hl; omega
  rw [decide_eq_true hlt] at h4
  simpa using h4
 ·
  intro k hk
  have h7 : (v.f2.dropWhile attrB).any attrB = false := by simpa using h5
  rw [List.any_eq_false] at h7
  simpa using h7 k hk
theorem ok_of_may : ∀ (e : Nat) (v : S24), attrB v = false → allN e v = true → okG stO e v
 | 0, v, h, ha => by
  rw [allN, h] at ha
  cases ha
 | e + 1, v, h, ha => by
  rw [allN, h, Bool.false_or, Bool.and_eq_true, List.all_eq_true] at ha
  obtain ⟨h1, h2, h3, h4, h5, h6⟩ := one_facts ha.1
  obtain ⟨n1, n2, n3⟩ := nameB_ok h1
  obtain ⟨a1, a2, _⟩ := attrs_facts _ _ (tw_all v.f2) h6
  refine ⟨n1, n2, n3, h2, a1, a2, by omega, fun k hk => ⟨h5 k hk, ok_of_may e k (h5 k hk) (ha.2 k ?_)⟩, h4⟩
  have hs := List.takeWhile_append_dropWhile (p := attrB) (l := v.f2)
  rw [← hs]
  exact List.mem_append_right _ hk
theorem attsL_eq : ∀ l : List S24, attsL l = attsG stO l
 | [] => rfl
 | k :: l => by
  rw [attsL, attsG, attsL_eq l]
  rfl
theorem form_tag {ra : List Att} {a b : ByteArray} {q : List S24} {inn : List UInt8} (hsep : ∀ k ∈ q.dropWhile attrB, attrB k = false) (ht : noEl q = false → b.data.toList = []) : formL a b (attsL q) inn (attsTx ra) = tagG stO ra a b q inn := by
 unfold tagG selfT formL openTx closeTx attsT' nmT saidTx
 have ea : attsTx (ra ++ (q.takeWhile attrB).map (attOf stO)) = attsTx ra ++ attsTx ((q.takeWhile attrB).map (attOf stO)) := List.flatMap_append ..
 rw [attsL_eq, attsG_sep stO q hsep, ea]
 cases hn : noEl q
 ·
  rw [ht hn]
  simp [stO, endTx, escL]
 ·
  simp [stO, endTx]
theorem inner_eq : ∀ (d : Nat) (l : List S24), (∀ k ∈ l, attrB k = false → okG stO d k) → innerL l = kidsG stO l
 | d, [], _ => by rw [innerL, kidsG_nil]
 | d, ⟨a, b, q⟩ :: l, h => by
  rw [innerL, kidsG, inner_eq d l (fun k hk => h k (List.mem_cons_of_mem _ hk))]
  by_cases ha : attrB ⟨a, b, q⟩ = true
  ·
   rw [if_pos ha, if_pos ha]
  ·
   rw [if_neg ha, if_neg ha]
   have hk := h ⟨a, b, q⟩ (by simp) (by simpa using ha)
   cases d with
   | zero => exact hk.elim
   | succ d =>
    obtain ⟨x1, x2, x3, x4, x5, x6, x7, x8, x9⟩ := hk
    have hq : innerL q = kidsG stO q := inner_eq d q (fun k hk hf => by
     have hs := List.takeWhile_append_dropWhile (p := attrB) (l := q)
     rw [← hs] at hk
     rcases List.mem_append.1 hk with hk | hk
     ·
      rw [tw_all q k hk] at hf
      cases hf
     ·
      exact (x8 k hk).2)
    rw [hq]
    have := form_tag (ra := []) (a := a) (b := b) (q := q) (inn := kidsG stO q) (fun k hk => (x8 k hk).1) x9
    rw [show attsTx [] = [] from rfl] at this
    rw [this]
    show _ = tagG stO [] a b q (kidsG stO q) ++ [] ++ _
    rw [List.append_nil]
termination_by d l => (d, SizeOf.sizeOf l)
theorem elem_eq {d : Nat} {v : S24} (space : List UInt8) (hv : okG stO (d + 1) v) : elemL v (spaceL space) = elG stO [rootA stO 34 space (escL space)] v := by
 obtain ⟨x1, x2, x3, x4, x5, x6, x7, x8, x9⟩ := hv
 unfold elemL elG
 have hq : innerL v.f2 = kidsG stO v.f2 := inner_eq d v.f2 (fun k hk hf => by
  have hs := List.takeWhile_append_dropWhile (p := attrB) (l := v.f2)
  rw [← hs] at hk
  rcases List.mem_append.1 hk with hk | hk
  ·
   rw [tw_all v.f2 k hk] at hf
   cases hf
  ·
   exact (x8 k hk).2)
 rw [hq]
 have hsp : spaceL space = attsTx [rootA stO 34 space (escL space)] := by
  unfold spaceL rootA attsTx
  simp [stO, attTx]
 rw [hsp]
 exact form_tag (fun k hk => (x8 k hk).1) x9
theorem index_two (c e : UInt8) : ∀ (l r : List UInt8), (∀ b ∈ l, b ≠ c) → Lib.index (l ++ c :: e :: r) [c, e] = (l.length : Int)
 | [], r, _ => by simp [Lib.index, List.isPrefixOf]
 | b :: l, r, h => by
  have ih := index_two c e l r (fun x hx => h x (List.mem_cons_of_mem _ hx))
  have hb : ([c, e] : List UInt8).isPrefixOf (b :: (l ++ c :: e :: r)) = false := by
   have : ¬ c = b := fun e => h b (by simp) e.symm
   simp [List.isPrefixOf, this]
  rw [List.cons_append, Lib.index, hb, ih]
  have : ((l.length : Int) == -1) = false := beq_eq_false_iff_ne.2 (by omega)
  rw [this]
  simp
def midL : List UInt8 := [32, 118, 101, 114, 115, 105, 111, 110, 61, 34, 49, 46, 48, 34, 32, 101, 110, 99, 111, 100, 105, 110, 103, 61, 34, 85, 84, 70, 45, 56, 34]
theorem head_split : headL = [60, 63, 120, 109, 108] ++ (midL ++ (63 :: 62 :: [10])) := rfl
theorem start_head {s : ByteArray} {r : List UInt8} (hs : s.data.toList = headL ++ r) : startT s = .ok 38 ∧ rs s 38 = [10] ++ r := by
 have h0 : rs s 0 = [60, 63, 120, 109, 108] ++ (midL ++ (63 :: 62 :: ([10] ++ r))) := by
  unfold rs
  rw [List.drop_zero, hs, head_split]
  simp
 have h5 : rs s 5 = midL ++ (63 :: 62 :: ([10] ++ r)) := C.rs_step (p := 0) h0
 have h36 : rs s 36 = 63 :: 62 :: ([10] ++ r) := C.rs_step (p := 5) h5
 have h38 : rs s 38 = [10] ++ r := C.rs_step (p := 36) (t := [63, 62]) h36
 refine ⟨?_, h38⟩
 have hp : Lib.hasPrefix s.data.toList [60, 63, 120, 109, 108] = true := by
  rw [hs, head_split]
  rfl
 have hi := index_two 63 62 midL ([10] ++ r) (by decide)
 have hc : Lib.cut (rs s 5) [63, 62] = (midL, [10] ++ r, true) := by
  rw [h5]
  unfold Lib.cut
  rw [hi, if_pos (by omega)]
  simp
 have hu : untilT s 5 [63, 62] = .ok (midL, 38) := by
  unfold untilT
  rw [hc]
  rfl
 unfold startT
 rw [if_pos hp, hu]
 simp only
 rw [C.contains_no 60 midL (by decide), if_neg (by simp)]
theorem write_parse (space : ByteArray) (v : S24) (h3 : cntL v.f2 ≤ 1000) (h : (writeT space v).2 = 0) : parseT (writeT space v).1 = ⟨space, v, ((writeT space v).1.size : Int), 0⟩ := by
 unfold writeT at h ⊢
 by_cases c1 : space.size = 0 ∨ goodB space.data.toList = false ∨ mayP v = false
 ·
  rw [if_pos c1] at h
  exact absurd h (by decide)
 ·
  rw [if_neg c1] at h ⊢
  by_cases c2 : 1048576 < (headL ++ elemL v (spaceL space.data.toList)).length
  ·
   rw [if_pos c2] at h
   exact absurd h (by decide)
  ·
   rw [if_neg c2]
   simp only
   have hgood : goodB space.data.toList = true := by
    cases hg : goodB space.data.toList with
    | true => rfl
    | false => exact absurd (.inr (.inl hg)) c1
   have hmay : mayP v = true := by
    cases hg : mayP v with
    | true => rfl
    | false => exact absurd (.inr (.inr hg)) c1
   unfold mayP at hmay
   rw [Bool.and_eq_true] at hmay
   have ha : attrB v = false := by simpa using hmay.1
   have hv : okG stO (63 + 1) v := ok_of_may 64 v ha hmay.2
   have h19 : (v.f2.takeWhile attrB).length ≤ 19 := by
    have := hmay.2
    rw [show (64 : Nat) = 63 + 1 from rfl, allN, ha, Bool.false_or, Bool.and_eq_true] at this
    exact (one_facts this.1).2.2.1
   have he := elem_eq space.data.toList hv
   rw [he] at c2 ⊢
   generalize hB : baL (headL ++ elG stO [rootA stO 34 space.data.toList (escL space.data.toList)] v) = B
   have hB' : (⟨(headL ++ elG stO [rootA stO 34 space.data.toList (escL space.data.toList)] v).toArray⟩ : ByteArray) = B := hB
   rw [hB']
   have hBl : B.data.toList = headL ++ elG stO [rootA stO 34 space.data.toList (escL space.data.toList)] v := by rw [← hB, baL_list]
   have hBs : B.size ≤ 1048576 := by rw [szl, hBl]; omega
   obtain ⟨hst, h38⟩ := start_head hBl
   have hu := un_escL space.data.toList [] 0 []
   rw [List.append_nil, un_nil] at hu
   have hun : (un (escL space.data.toList) 0 []).1 = space.data.toList ∧ (un (escL space.data.toList) 0 []).2.2 = 0 := by
    rw [hu]
    exact ⟨rfl, rfl⟩
   have hcl := escL_clean space.data.toList
   have hv' := hv
   obtain ⟨x1, x2, x3, x4, x5, x6, x7, x8, x9⟩ := hv
   have hrn0 : NameOk [120, 109, 108, 110, 115] := ⟨⟨120, [109, 108, 110, 115], rfl, by decide⟩, by decide, by decide⟩
   have hrn : NameOk (rootA stO 34 space.data.toList (escL space.data.toList)).nm := hrn0
   have hra : ∀ a ∈ [rootA stO 34 space.data.toList (escL space.data.toList)], AttOk a := by
    intro a ha
    rw [List.mem_singleton.1 ha]
    exact ⟨hrn, .inl rfl, fun b hb => (hcl b hb).2.2.1, fun b hb => (hcl b hb).1, hun⟩
   have hrk : ∀ a ∈ [rootA stO 34 space.data.toList (escL space.data.toList)], ckO (attTx a) := by
    intro a ha
    rw [List.mem_singleton.1 ha]
    exact ckO_att hrn (.inl rfl) (ckO_esc hgood)
   have hn : ((attsT' stO [rootA stO 34 space.data.toList (escL space.data.toList)] v.f2).map Att.nm).Nodup := by
    show ([120, 109, 108, 110, 115] :: ((v.f2.takeWhile attrB).map (attOf stO)).map Att.nm).Nodup
    rw [nms_eq, List.nodup_cons]
    refine ⟨?_, x6⟩
    intro hmem
    obtain ⟨k, hk, e⟩ := List.mem_map.1 hmem
    exact (x5 k hk).xml e
   have hln : (attsT' stO [rootA stO 34 space.data.toList (escL space.data.toList)] v.f2).length ≤ 20 := by
    show ((rootA stO 34 space.data.toList (escL space.data.toList)) :: (v.f2.takeWhile attrB).map (attOf stO)).length ≤ 20
    rw [List.length_cons, List.length_map]
    omega
   have hp38 : 38 ≤ B.size := by
    rw [szl, hBl, List.length_append, show headL.length = 39 from rfl]
    omega
   have r1 := C.run_text (x := [10]) (v := [10]) h38 (by decide) hp38 (.inr (lt_el stO _ v)) (by decide +kernel)
   have h39 : rs B 39 = elG stO [rootA stO 34 space.data.toList (escL space.data.toList)] v ++ [] := by
    rw [List.append_nil]
    exact C.rs_step (p := 38) (t := [10]) h38
   have r2 := run_tag stO_ok (run_kids stO_ok 63) hv' hra hn hln h39
   have r3 := r1.trans r2
   have hend : 38 + ([10] : List UInt8).length + (elG stO [rootA stO 34 space.data.toList (escL space.data.toList)] v).length = B.size := by
    rw [szl, hBl, List.length_append]
    rfl
   rw [show 39 = 38 + ([10] : List UInt8).length from rfl] at r3
   rw [hend] at r3
   obtain ⟨m, hm1, hm2⟩ := r3.all
   have htok : tokR B = (m, (B.size : Int), 0) := by
    unfold tokR
    have hck : ckO B.data.toList := by
     rw [hBl]
     exact ckO_app (by rfl) (ckO_tag stO_ok (ckO_kids stO_ok 63) hv' hrk)
    rw [if_neg (by omega), if_neg (by rw [hck]; simp)]
    unfold readT
    rw [hst]
    simp only
    rw [hm2]
   obtain ⟨k1, _⟩ := parse_run htok hm1
   have hrun : runE bst0 (C.textZ [10] ++ elZ stO [rootA stO 34 space.data.toList (escL space.data.toList)] v) = .ok ⟨[], v, ⟨space.data.toList.toArray⟩, true, 1 + cntL v.f2⟩ := by
    rw [show C.textZ [10] = [⟨3, ⟨#[]⟩, ⟨#[10]⟩, [], false, 0⟩] from rfl, List.singleton_append]
    have : tokT bst0 ⟨3, ⟨#[]⟩, ⟨#[10]⟩, [], false, 0⟩ = (bst0, 0) := by rfl
    rw [runE_cons this]
    exact root_run stO_ok (q := 34) hv' (by omega) (by omega)
   rw [k1 _ hrun, ba_of]
   unfold finT
   simp only
   rw [if_pos trivial]
end Go.Proofs.YtknfpggiigncpaaGreatDoor.G
end
