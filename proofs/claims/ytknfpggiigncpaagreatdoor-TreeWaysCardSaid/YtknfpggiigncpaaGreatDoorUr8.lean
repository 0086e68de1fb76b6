/- The law's wakes of chapter 10: four known texts. -/
import Derived.Test.YtknfpggiigncpaaGreatDoorTw3
import Derived.Test.YtknfpggiigncpaaGreatDoorDt1
set_option linter.unusedVariables false
set_option linter.unusedSimpArgs false
section
namespace Go.Proofs.YtknfpggiigncpaaGreatDoor.G
open Go.RowKit P E T
open B (Ev ba_ext ba_app drop_at bt_of w_succ toL ext_list sz_list)
open C (S44 Att AttOk attTx attsTx attsTx_cons endTx NameOk isLet isNm isDig isSgn rs Run)
open YtknfpggiigncpaaGreatDoorW.PrintWords
def ckO (l : List UInt8) : Prop := (ckL l).2 = 0
theorem ckO_app {l t : List UInt8} (h : ckO l) (k : ckO t) : ckO (l ++ t) := by
 have := ((ck_append l.length l t (Nat.le_refl _)).1 h).2
 unfold ckO
 rw [this]
 exact k
def ascB (b : UInt8) : Bool := decide (b.toNat < 128) && xmlB b.toNat
theorem ckO_asc {l : List UInt8} (h : ∀ b ∈ l, ascB b = true) : ckO l := by
 have := ck_asciis l [] (fun b hb => by have := h b hb; unfold ascB at this; simpa using this)
 rw [List.append_nil] at this
 exact this
theorem ckO_esc {l : List UInt8} (h : goodB l = true) : ckO (escL l) := by
 unfold ckO
 rw [ck_esc l.length l (Nat.le_refl _)]
 unfold goodB at h
 simpa using h
theorem asc_nm : ∀ c : UInt8, isNm c = true → ascB c = true := by
 have : ∀ n : Nat, n < 256 → isNm (UInt8.ofNat n) = true → ascB (UInt8.ofNat n) = true := by decide +kernel
 intro c hc
 have := this c.toNat c.toNat_lt
 rw [show UInt8.ofNat c.toNat = c by simp] at this
 exact this hc
theorem asc_blank : ∀ c : UInt8, blankB c = true → ascB c = true := by
 have : ∀ n : Nat, n < 256 → blankB (UInt8.ofNat n) = true → ascB (UInt8.ofNat n) = true := by decide +kernel
 intro c hc
 have := this c.toNat c.toNat_lt
 rw [show UInt8.ofNat c.toNat = c by simp] at this
 exact this hc
theorem ckO_nm {l : List UInt8} (h : NameOk l) : ckO l := ckO_asc fun c hc => asc_nm c (h.2.1 c hc)
theorem ckO_cons {b : UInt8} {l : List UInt8} (hb : ascB b = true) (h : ckO l) : ckO (b :: l) := ckO_app (l := [b]) (ckO_asc (by intro c hc; rw [List.mem_singleton.1 hc]; exact hb)) h
theorem ckO_nil : ckO [] := rfl
theorem ckO_att {a : Att} (h : NameOk a.nm) (hq : a.q = 34 ∨ a.q = 39) (hr : ckO a.raw) : ckO (attTx a) := by
 have q : ascB a.q = true := by rcases hq with e | e <;> rw [e] <;> decide
 exact ckO_cons (by decide) (ckO_app (ckO_nm h) (ckO_cons (by decide) (ckO_cons q (ckO_app hr (ckO_cons q ckO_nil)))))
theorem ckO_atts : ∀ {l : List Att}, (∀ a ∈ l, ckO (attTx a)) → ckO (attsTx l)
 | [], _ => ckO_nil
 | a :: l, h => by
  rw [attsTx_cons]
  exact ckO_app (h a (by simp)) (ckO_atts fun x hx => h x (List.mem_cons_of_mem _ hx))
theorem ckO_end (b : Bool) : ckO (endTx b) := by cases b <;> rfl
theorem ckO_rem {st : Sty} (h : StyOk st) : ckO st.rem := by rcases h.rem with e | e <;> rw [e] <;> rfl
theorem ckO_cd {st : Sty} (h : StyOk st) : ckO st.cd := by rcases h.cd with e | e <;> rw [e] <;> rfl
theorem ckO_tag {st : Sty} (hst : StyOk st) {d : Nat} (kids : ∀ (l : List S24), (∀ k ∈ l, attrB k = false ∧ okG st d k) → ckO (kidsG st l)) {ra : List Att} {v : S24} (hv : okG st (d + 1) v) (hra : ∀ a ∈ ra, ckO (attTx a)) : ckO (elG st ra v) := by
 obtain ⟨x1, x2, x3, x4, x5, x6, x7, x8, x9⟩ := hv
 have hatt : ckO (attsTx (attsT' st ra v.f2)) := by
  apply ckO_atts
  intro a ha
  rcases List.mem_append.1 ha with ha | ha
  ·
   exact hra a ha
  ·
   obtain ⟨k, hk, rfl⟩ := List.mem_map.1 ha
   exact ckO_att (x5 k hk).nm hst.q (ckO_esc (x5 k hk).good)
 have hbl : ckO st.bl := ckO_asc fun c hc => asc_blank c (hst.bl c hc)
 have hopen : ∀ self, ckO (openTx st ra v.f0 v.f2 self) := fun self => ckO_cons (by decide) (ckO_app (ckO_nm x1) (ckO_app hatt (ckO_app hbl (ckO_end self))))
 unfold elG tagG
 split
 ·
  exact hopen true
 ·
  refine ckO_app (hopen false) (ckO_app (ckO_rem hst) (ckO_app ?_ (ckO_app ?_ (ckO_cons (by decide) (ckO_cons (by decide) (ckO_app (ckO_nm x1) (ckO_cons (by decide) ckO_nil)))))))
  ·
   unfold saidTx
   split
   ·
    exact ckO_app (ckO_esc x4) (ckO_cd hst)
   ·
    exact ckO_nil
  ·
   rw [kidsG_els]
   exact kids _ x8
theorem ckO_kids {st : Sty} (hst : StyOk st) : ∀ (d : Nat) (l : List S24), (∀ k ∈ l, attrB k = false ∧ okG st d k) → ckO (kidsG st l)
 | d, [], _ => by rw [kidsG_nil]; exact ckO_nil
 | 0, v :: l, h => (h v (by simp)).2.elim
 | d + 1, v :: l, h => by
  obtain ⟨h1, h2⟩ := h v (by simp)
  rw [kidsG_cons st v l h1]
  exact ckO_app (ckO_tag hst (ckO_kids hst d) h2 (by intro a ha; cases ha)) (ckO_app (ckO_asc fun c hc => asc_blank c (hst.gap c hc)) (ckO_kids hst (d + 1) l fun k hk => h k (List.mem_cons_of_mem _ hk)))
theorem el_parse {st : Sty} (hst : StyOk st) {d : Nat} {q : UInt8} {U raw : List UInt8} {v : S24} (hv : okG st (d + 1) v) (hq : q = 34 ∨ q = 39) (hnoq : ∀ b ∈ raw, b ≠ q) (hnolt : ∀ b ∈ raw, b ≠ 60) (hun : (un raw 0 []).1 = U ∧ (un raw 0 []).2.2 = 0) (hraw : ckO raw)
  (hl : (v.f2.takeWhile attrB).length ≤ 19) (hm : 1 + cntL v.f2 ≤ 20000) (hd : d + 1 ≤ 64) (hx : st.pre = [] ∨ ∀ k ∈ v.f2.takeWhile attrB, ∀ c ∈ atL k, c ≠ 58) (s : ByteArray) (hs : s.data.toList = elG st [rootA st q U raw] v) (hsz : s.size ≤ 1048576) :
  parseT s = ⟨⟨U.toArray⟩, v, (s.size : Int), 0⟩ := by
 have hv' := hv
 obtain ⟨x1, x2, x3, x4, x5, x6, x7, x8, x9⟩ := hv
 have hrn : NameOk (rootA st q U raw).nm := by
  unfold rootA
  simp only
  split
  ·
   exact ⟨⟨120, [109, 108, 110, 115], rfl, by decide⟩, by decide, by decide⟩
  ·
   exact ⟨⟨120, [109, 108, 110, 115, 58, 112], rfl, by decide⟩, by decide, by decide⟩
 have hra : ∀ a ∈ [rootA st q U raw], AttOk a := by
  intro a ha
  rw [List.mem_singleton.1 ha]
  exact ⟨hrn, hq, hnoq, hnolt, hun⟩
 have hrk : ∀ a ∈ [rootA st q U raw], ckO (attTx a) := by
  intro a ha
  rw [List.mem_singleton.1 ha]
  exact ckO_att hrn hq hraw
 have hn : ((attsT' st [rootA st q U raw] v.f2).map Att.nm).Nodup := by
  show ((rootA st q U raw).nm :: ((v.f2.takeWhile attrB).map (attOf st)).map Att.nm).Nodup
  rw [nms_eq, List.nodup_cons]
  refine ⟨?_, x6⟩
  intro hmem
  obtain ⟨k, hk, e⟩ := List.mem_map.1 hmem
  unfold rootA at e
  simp only at e
  split at e
  ·
   exact (x5 k hk).xml e
  ·
   exact (x5 k hk).col 58 (by rw [e]; decide) rfl
 have hln : (attsT' st [rootA st q U raw] v.f2).length ≤ 20 := by
  show ((rootA st q U raw) :: (v.f2.takeWhile attrB).map (attOf st)).length ≤ 20
  rw [List.length_cons, List.length_map]
  omega
 have h0 : rs s 0 = elG st [rootA st q U raw] v ++ [] := by unfold rs; rw [List.drop_zero, hs, List.append_nil]
 have hr := run_tag hst (run_kids hst d) hv' hra hn hln h0
 have hlen : 0 + (elG st [rootA st q U raw] v).length = s.size := by rw [Nat.zero_add, ← hs, ← B.sz_list]
 rw [hlen] at hr
 have hpx : Lib.hasPrefix s.data.toList [60, 63, 120, 109, 108] = false := by
  rw [hs]
  obtain ⟨⟨b, t, hb1, hb2⟩, _⟩ := x1
  have hb3 : ((63 : UInt8) == b) = false := by
   rw [beq_eq_false_iff_ne]
   intro e
   subst e
   exact absurd hb2 (by decide)
  have : ∀ self (t' : List UInt8), Lib.hasPrefix (openTx st [rootA st q U raw] v.f0 v.f2 self ++ t') [60, 63, 120, 109, 108] = false := by
   intro self t'
   unfold openTx
   rw [hb1, List.cons_append, List.cons_append, List.cons_append, C.hp_one, C.hp_one, hb3]
   rfl
  unfold elG tagG
  split
  ·
   have := this true []
   rw [List.append_nil] at this
   exact this
  ·
   exact this false _
 obtain ⟨m, hm1, hm2⟩ := C.tokR_run hsz (by rw [hs]; exact ckO_tag hst (ckO_kids hst d) hv' hrk) hpx hr
 obtain ⟨k1, _⟩ := parse_run hm2 hm1
 rw [k1 _ (root_run hst (q := q) (raw := raw) (U := U) hv' hm hd)]
 unfold finT
 simp only
 rw [if_pos trivial]
theorem raw_u : (un ([117] : List UInt8) 0 []).1 = [117] ∧ (un ([117] : List UInt8) 0 []).2.2 = 0 := by decide +kernel
theorem ways_parse (x : Int) (d : Nat) (v : S24) (hp : plT (d + 1) v = true) (hd : d + 1 ≤ 64) (hl : (v.f2.takeWhile attrB).length ≤ 19) (hm : cntL v.f2 ≤ 1000) (hsz : (elG (stW x) (raW x true) v).length ≤ 1048576) :
  parseT (baL (elG (stW x) (raW x true) v)) = ⟨⟨#[117]⟩, v, ((elG (stW x) (raW x true) v).length : Int), 0⟩ := by
 have hv := ok_of_pl x (d + 1) v hp
 have e : raW x true = [rootA (stW x) (if Go.bits .and .u8 x 1 = 1 then 34 else 39) [117] [117]] := by unfold raW; rw [if_pos rfl]
 rw [e] at hsz ⊢
 have hq : (if Go.bits .and .u8 x 1 = 1 then (34 : UInt8) else 39) = 34 ∨ (if Go.bits .and .u8 x 1 = 1 then (34 : UInt8) else 39) = 39 := by split <;> simp
 generalize (if Go.bits .and .u8 x 1 = 1 then (34 : UInt8) else 39) = q at *
 refine el_parse (stW_ok x) hv hq ?_ (by decide) raw_u (by rfl) hl (by omega) hd ?_ _ (baL_list _) (by rw [baL_size]; exact hsz)
 ·
  rcases hq with e | e <;> rw [e] <;> decide
 ·
  exact .inr fun k hk => (hv.2.2.2.2.1 k hk).col
theorem attr_l0 : ∀ (l p : List S24) (a b : ByteArray) (n : Nat), (∀ k ∈ l, 0 < k.f0.size) → (p ++ l).length ≤ 100000 → n ≤ p.length → Ev (fun k => remitterlaw10_attributes.l0 k (n : Int) (p.length : Int) a b (p ++ l)) ((n + (l.filter attrB).length : Nat) : Int)
 | [], p, a, b, n, h0, hl, hn => by
  refine ⟨1, fun k hk => ?_⟩
  obtain ⟨k, rfl⟩ : ∃ j, k = j + 1 := ⟨k - 1, by omega⟩
  dsimp only
  rw [remitterlaw10_attributes.l0, if_neg (by simp)]
  simp
 | q :: l, p, a, b, n, h0, hl, hn => by
  have hL : (p ++ q :: l).length = p.length + l.length + 1 := by simp; omega
  have hq0 := h0 q (by simp)
  have ih := fun n hn => attr_l0 l (p ++ [q]) a b n (fun k hk => h0 k (List.mem_cons_of_mem _ hk)) (by rw [List.append_assoc]; exact hl) hn
  by_cases hb : attrB q = true
  ·
   obtain ⟨K, hK⟩ := ih (n + 1) (by simp; omega)
   refine ⟨K + 1, fun k hk => ?_⟩
   obtain ⟨k, rfl⟩ : ∃ j, k = j + 1 := ⟨k - 1, by omega⟩
   have h1 := hK k (by omega)
   simp only [List.append_assoc, List.singleton_append, List.length_append, List.length_singleton] at h1
   dsimp only
   rw [remitterlaw10_attributes.l0, if_pos (by rw [hL]; omega), if_pos (by omega), rd_pre, if_pos (by omega), if_pos ((hd_name q hq0).2 hb), w_succ p.length (by omega), w_succ n (by omega)]
   refine h1.trans ?_
   rw [List.filter_cons_of_pos hb, List.length_cons, show n + 1 + (l.filter attrB).length = n + ((l.filter attrB).length + 1) by omega]
  ·
   obtain ⟨K, hK⟩ := ih n (by simp; omega)
   refine ⟨K + 1, fun k hk => ?_⟩
   obtain ⟨k, rfl⟩ : ∃ j, k = j + 1 := ⟨k - 1, by omega⟩
   have h1 := hK k (by omega)
   simp only [List.append_assoc, List.singleton_append, List.length_append, List.length_singleton] at h1
   dsimp only
   rw [remitterlaw10_attributes.l0, if_pos (by rw [hL]; omega), if_pos (by omega), rd_pre, if_pos (by omega), if_neg (fun h => hb ((hd_name q hq0).1 h)), w_succ p.length (by omega)]
   refine h1.trans ?_
   rw [List.filter_cons_of_neg hb]
theorem filter_at {d : Nat} {v : S24} (F : PlF d v) : (v.f2.filter attrB).length = (v.f2.takeWhile attrB).length := by
 have hs := List.takeWhile_append_dropWhile (p := attrB) (l := v.f2)
 have h1 : (v.f2.takeWhile attrB).filter attrB = v.f2.takeWhile attrB := List.filter_eq_self.2 (tw_all v.f2)
 have h2 : (v.f2.dropWhile attrB).filter attrB = [] := List.filter_eq_nil_iff.2 (fun k hk => by rw [(F.el k hk).1]; simp)
 have h3 : v.f2.filter attrB = (v.f2.takeWhile attrB ++ v.f2.dropWhile attrB).filter attrB := by rw [hs]
 rw [h3, List.filter_append, h1, h2, List.append_nil]
theorem attrs_ev {d : Nat} {v : S24} (F : PlF d v) : Ev (fun k => remitterlaw10_attributes.f k v.f0 v.f1 v.f2) ((v.f2.takeWhile attrB).length : Int) := by
 have h := attr_l0 v.f2 [] v.f0 v.f1 0 (pl_names F) (by have := F.len; simp; omega) (Nat.le_refl _)
 rw [Nat.zero_add, filter_at F] at h
 exact h
end Go.Proofs.YtknfpggiigncpaaGreatDoor.G
end
section
namespace Go.Proofs.YtknfpggiigncpaaGreatDoor.T
open Go.RowKit P E YtknfpggiigncpaaGreatDoorW.PrintLast YtknfpggiigncpaaGreatDoorW.PrintMore
open YtknfpggiigncpaaGreatDoorW.PrintWords
def tt1 : ByteArray := ⟨#[60, 112, 58, 97, 32, 120, 109, 108, 110, 115, 58, 112, 61, 34, 117, 34, 32, 120, 61, 34, 49, 34, 62, 60, 112, 58, 98, 62, 116, 60, 47, 112, 58, 98, 62, 60, 47, 112, 58, 97, 62]⟩
def tt2 : ByteArray := ⟨#[60, 97, 62, 60, 98, 62, 60, 47, 97, 62, 60, 47, 98, 62]⟩
def tt3 : ByteArray := ⟨#[60, 97, 32, 120, 109, 108, 110, 115, 61, 34, 117, 34, 62, 60, 98, 32, 120, 109, 108, 110, 115, 61, 34, 118, 34, 47, 62, 60, 47, 97, 62]⟩
def tt4 : ByteArray := ⟨#[]⟩
theorem tt1_v : parseT tt1 = ⟨⟨#[117]⟩, ⟨⟨#[97]⟩, ⟨#[]⟩, [⟨⟨#[64, 120]⟩, ⟨#[49]⟩, []⟩, ⟨⟨#[98]⟩, ⟨#[116]⟩, []⟩]⟩, 41, 0⟩ := by kernel_rfl
theorem tt2_v : parseT tt2 = ⟨⟨#[]⟩, ⟨⟨#[]⟩, ⟨#[]⟩, []⟩, 6, 23⟩ := by kernel_rfl
theorem tt3_v : parseT tt3 = ⟨⟨#[]⟩, ⟨⟨#[]⟩, ⟨#[]⟩, []⟩, 13, 24⟩ := by kernel_rfl
theorem tt4_v : parseT tt4 = ⟨⟨#[]⟩, ⟨⟨#[]⟩, ⟨#[]⟩, []⟩, 0, 23⟩ := by kernel_rfl
theorem tt1_c (w : World) (hG : Glob w) : Calls Tryz.prog 36 #[.string tt1] w (TreePost w ⟨⟨#[117]⟩, ⟨⟨#[97]⟩, ⟨#[]⟩, [⟨⟨#[64, 120]⟩, ⟨#[49]⟩, []⟩, ⟨⟨#[98]⟩, ⟨#[116]⟩, []⟩]⟩, 41, 0⟩) := by
 have h := parse_any tt1 w (by decide) hG
 rw [tt1_v] at h
 exact h
theorem tt2_c (w : World) (hG : Glob w) : Calls Tryz.prog 36 #[.string tt2] w (TreePost w ⟨⟨#[]⟩, ⟨⟨#[]⟩, ⟨#[]⟩, []⟩, 6, 23⟩) := by
 have h := parse_any tt2 w (by decide) hG
 rw [tt2_v] at h
 exact h
theorem tt3_c (w : World) (hG : Glob w) : Calls Tryz.prog 36 #[.string tt3] w (TreePost w ⟨⟨#[]⟩, ⟨⟨#[]⟩, ⟨#[]⟩, []⟩, 13, 24⟩) := by
 have h := parse_any tt3 w (by decide) hG
 rw [tt3_v] at h
 exact h
theorem tt4_c (w : World) (hG : Glob w) : Calls Tryz.prog 36 #[.string tt4] w (TreePost w ⟨⟨#[]⟩, ⟨⟨#[]⟩, ⟨#[]⟩, []⟩, 0, 23⟩) := by
 have h := parse_any tt4 w (by decide) hG
 rw [tt4_v] at h
 exact h
set_option maxHeartbeats 4000000 in
set_option maxRecDepth 100000 in
theorem twakes_any (w : World) (hG : Glob w) : Calls Tryz.prog 35 #[] w fun e w' => e = .returned (.bool true) ∧ Below w.heap.size w w' := by
 have HG := Lib.hid hG
 clear hG
 go_enter Tryz.func35, Tryz.ntmps35
 go_wp2_with fail
 refine (tt1_c w HG.out).mono ?_
 rintro e w1 ⟨A1, c1, rfl, hc1, hC1, hb1⟩
 have hba1 := below_alloc (Below.refl w1.heap.size w1) (.cells #[.string ⟨#[97]⟩, .string ⟨#[]⟩, .slice A1 2 c1] 24)
 have hk1 := (MapKept.heap_alloc w1 (.cells #[.string ⟨#[97]⟩, .string ⟨#[]⟩, .slice A1 2 c1] 24)).1
 have HB2 := Lib.hid (hb1.trans (hba1.mono hb1.size))
 have HC2 := Lib.hid (Kd.C_below hC1 hba1)
 clear hC1 hb1 hba1
 dsimp only [List.length]
 go_wp2_with fail
 generalize w1.heap.size = ga at hk1 ⊢
 generalize w1.alloc _ = w2 at hk1 HB2 HC2 ⊢
 refine (tt2_c w2 (HG.out.below HB2.out)).mono ?_
 rintro e w3 ⟨A2, c2, rfl, hc2, hC2, hb3⟩
 have hba3 := below_alloc (Below.refl w3.heap.size w3) (.cells #[.string ⟨#[]⟩, .string ⟨#[]⟩, .slice A2 0 c2] 24)
 have hb34 := hb3.trans (hba3.mono hb3.size)
 have HB4 := Lib.hid (HB2.out.trans (hb34.mono HB2.out.size))
 have HC4 := Lib.hid (Kd.C_below HC2.out hb34)
 have hk4 := (hb34.block ga (Array.getElem?_eq_some_iff.1 hk1).1).trans hk1
 clear hC2 hb3 hba3 hb34 HB2 HC2 hk1
 dsimp only [List.length]
 go_wp2_with fail
 generalize w3.heap.size = gb
 generalize w3.alloc _ = w4 at hk4 HB4 HC4 ⊢
 refine (tt3_c w4 (HG.out.below HB4.out)).mono ?_
 rintro e w5 ⟨A3, c3, rfl, hc3, hC3, hb5⟩
 have hba5 := below_alloc (Below.refl w5.heap.size w5) (.cells #[.string ⟨#[]⟩, .string ⟨#[]⟩, .slice A3 0 c3] 24)
 have hb56 := hb5.trans (hba5.mono hb5.size)
 have HB6 := Lib.hid (HB4.out.trans (hb56.mono HB4.out.size))
 have HC6 := Lib.hid (Kd.C_below HC4.out hb56)
 have hk6 := (hb56.block ga (Array.getElem?_eq_some_iff.1 hk4).1).trans hk4
 clear hC3 hb5 hba5 hb56 HB4 HC4 hk4
 dsimp only [List.length]
 go_wp2_with fail
 generalize w5.heap.size = gc
 generalize w5.alloc _ = w6 at hk6 HB6 HC6 ⊢
 refine (tt4_c w6 (HG.out.below HB6.out)).mono ?_
 rintro e w7 ⟨A4, c4, rfl, hc4, hC4, hb7⟩
 have hba7 := below_alloc (Below.refl w7.heap.size w7) (.cells #[.string ⟨#[]⟩, .string ⟨#[]⟩, .slice A4 0 c4] 24)
 have hb78 := hb7.trans (hba7.mono hb7.size)
 have HB8 := Lib.hid (HB6.out.trans (hb78.mono HB6.out.size))
 have HC8 := Lib.hid (Kd.C_below HC6.out hb78)
 have hk8 := (hb78.block ga (Array.getElem?_eq_some_iff.1 hk6).1).trans hk6
 clear hC4 hb7 hba7 hb78 HB6 HC6 hk6
 obtain ⟨ad, B2, d2, e, hx0, hx1, hx2, hx3, hx4⟩ := at_T24 HC8.out 0 (by decide) (by decide)
 obtain ⟨ad', B3, d3, e', hy0, hy1, hy2, hy3, hy4⟩ := at_T24 HC8.out 1 (by decide) (by decide)
 cases e
 cases e'
 simp [rd_T24] at hx0 hy0 hy1
 replace hx0 : _ = _ := (congrArg _ (show ad = ad.add 0 from by cases ad; rfl)).trans hx0
 clear hx1 hx2 hx3 hx4 hy2 hy3 hy4
 have a0 := crow 0 (Value.string ⟨#[97]⟩) hk8
 have a2 := crow 2 (Value.slice (some ad) 2 c1) hk8
 clear hk8
 dsimp only [List.length]
 go_upto_region 5 with fail
 generalize w7.heap.size = gd
 generalize w7.alloc _ = w8 at a0 a2 hx0 hy0 hy1 HB8 ⊢
 have hy0' : w8.cell? ⟨ad.block, ad.off + 3, none⟩ = _ := hy0
 have hy1' : w8.cell? ⟨ad.block, ad.off + 3 + 1, none⟩ = _ := hy1
 go_wp2_with fail
 go_ret
 exact ⟨rfl, HB8.out⟩
end Go.Proofs.YtknfpggiigncpaaGreatDoor.T
end
