/- The law's own draw, as it is printed, tells a way of writing: plain Lean. -/
import Derived.Test.YtknfpggiigncpaaGreatDoorTw1
import Derived.Test.YtknfpggiigncpaaGreatDoorHx4
import Derived.Test.YtknfpggiigncpaaGreatDoorXReg
import Derived.Test.YtknfpggiigncpaaGreatDoorPg2
set_option maxHeartbeats 8000000
set_option linter.unusedVariables false
set_option linter.unusedSimpArgs false
namespace Go.Proofs.YtknfpggiigncpaaGreatDoor.G
open Go.RowKit P E
open B (Ev ba_ext ba_app drop_at bt_of w_succ toL ext_list sz_list)
open C (Att attTx attsTx attsTx_cons endTx)
open YtknfpggiigncpaaGreatDoorW.PrintWords
def stW (x : Int) : Sty :=
 ⟨if Go.bits .and .u8 x 1 = 1 then [112, 58] else [], if Go.bits .and .u8 x 2 = 2 then 39 else 34, if Go.bits .and .u8 x 4 = 4 then [10] else [], if Go.bits .and .u8 x 64 = 64 then [32, 10, 32] else [],
  if Go.bits .and .u8 x 16 = 16 then remL else [], if Go.bits .and .u8 x 32 = 32 then cdL else [], decide (Go.bits .and .u8 x 8 = 8)⟩
def raW (x : Int) (root : Bool) : List Att := if root = true then [rootA (stW x) (if Go.bits .and .u8 x 1 = 1 then 34 else 39) [117] [117]] else []
theorem stW_ok (x : Int) : StyOk (stW x) := by
 unfold stW
 refine ⟨?_, ?_, ?_, ?_, ?_, ?_⟩ <;> simp only <;> split
 ·
  exact .inr rfl
 ·
  exact .inl rfl
 ·
  exact .inr rfl
 ·
  exact .inl rfl
 ·
  decide
 ·
  intro c h; cases h
 ·
  decide
 ·
  intro c h; cases h
 ·
  exact .inr rfl
 ·
  exact .inl rfl
 ·
  exact .inr rfl
 ·
  exact .inl rfl
def attsG (st : Sty) : List S24 → List UInt8
 | [] => []
 | k :: l => (if attrB k = true then attTx (attOf st k) else []) ++ attsG st l
def nE : List S24 → Nat
 | [] => 0
 | k :: l => (if attrB k = true then 0 else 1) + nE l
theorem attsG_app (st : Sty) : ∀ (l m : List S24), attsG st (l ++ m) = attsG st l ++ attsG st m
 | [], m => rfl
 | k :: l, m => by rw [List.cons_append, attsG, attsG, attsG_app st l m, List.append_assoc]
theorem attsG_at (st : Sty) : ∀ (l : List S24), (∀ k ∈ l, attrB k = true) → attsG st l = attsTx (l.map (attOf st))
 | [], _ => rfl
 | k :: l, h => by rw [attsG, if_pos (h k (by simp)), attsG_at st l (fun x hx => h x (List.mem_cons_of_mem _ hx)), List.map_cons, attsTx_cons]
theorem attsG_el (st : Sty) : ∀ (l : List S24), (∀ k ∈ l, attrB k = false) → attsG st l = []
 | [], _ => rfl
 | k :: l, h => by rw [attsG, if_neg (by rw [h k (by simp)]; simp), attsG_el st l (fun x hx => h x (List.mem_cons_of_mem _ hx))]; rfl
theorem attsG_sep (st : Sty) (q : List S24) (h : ∀ k ∈ q.dropWhile attrB, attrB k = false) : attsG st q = attsTx ((q.takeWhile attrB).map (attOf st)) := by
 have := attsG_app st (q.takeWhile attrB) (q.dropWhile attrB)
 rw [List.takeWhile_append_dropWhile, attsG_at st _ (tw_all q), attsG_el st _ h, List.append_nil] at this
 exact this
theorem nE_app : ∀ (l m : List S24), nE (l ++ m) = nE l + nE m
 | [], m => by simp [nE]
 | k :: l, m => by rw [List.cons_append, nE, nE, nE_app l m]; omega
theorem nE_at : ∀ (l : List S24), (∀ k ∈ l, attrB k = true) → nE l = 0
 | [], _ => rfl
 | k :: l, h => by rw [nE, if_pos (h k (by simp)), nE_at l (fun x hx => h x (List.mem_cons_of_mem _ hx))]
theorem nE_el : ∀ (l : List S24), (∀ k ∈ l, attrB k = false) → nE l = l.length
 | [], _ => rfl
 | k :: l, h => by rw [nE, if_neg (by rw [h k (by simp)]; simp), nE_el l (fun x hx => h x (List.mem_cons_of_mem _ hx)), List.length_cons]; omega
theorem nE_sep (q : List S24) (h : ∀ k ∈ q.dropWhile attrB, attrB k = false) : nE q = 0 ↔ noEl q = true := by
 have := nE_app (q.takeWhile attrB) (q.dropWhile attrB)
 rw [List.takeWhile_append_dropWhile, nE_at _ (tw_all q), nE_el _ h, Nat.zero_add] at this
 rw [this]
 unfold noEl
 cases q.dropWhile attrB <;> simp
theorem atL_len2 (k : S24) : (atL k).length ≤ k.f0.size := by
 unfold atL
 rw [List.length_drop, sz_list]
 omega
theorem escL_len2 : ∀ l : List UInt8, (escL l).length ≤ 6 * l.length
 | [] => by simp [escL]
 | b :: r => by
  rw [escL_cons]
  have := escL_len2 r
  have := escByte_len b
  simp only [List.length_append, List.length_cons]
  omega
theorem baOf_sz2 (l : List UInt8) : (⟨l.toArray⟩ : ByteArray).size = l.length := rfl
theorem attTx_len (a : Att) : (attTx a).length = a.nm.length + a.raw.length + 4 := by
 unfold attTx
 simp
 omega
theorem sty_len (x : Int) : (stW x).pre.length ≤ 2 ∧ (stW x).bl.length ≤ 1 ∧ (stW x).gap.length ≤ 3 ∧ (stW x).rem.length ≤ 10 ∧ (stW x).cd.length ≤ 12 := by
 unfold stW
 refine ⟨?_, ?_, ?_, ?_, ?_⟩ <;> simp only <;> split <;> decide
theorem endTx_len (b : Bool) : (endTx b).length ≤ 2 := by cases b <;> decide
theorem attsG_len (st : Sty) : ∀ l : List S24, smallL l → (attsG st l).length ≤ 20000 * l.length
 | [], _ => by simp [attsG]
 | ⟨a, b, q⟩ :: l, h => by
  simp only [smallL] at h
  have h1 := attsG_len st l h.2.2
  have h2 := escL_len2 b.data.toList
  have h3 := atL_len2 ⟨a, b, q⟩
  have h4 := sz_list b
  simp only [attsG, List.length_append, List.length_cons]
  split
  ·
   rw [attTx_len]
   simp only [attOf] at *
   omega
  ·
   simp only [List.length_nil]
   omega
theorem kids_len (x : Int) : ∀ l : List S24, smallL l → (kidsG (stW x) l).length + 20000 * l.length ≤ 60000 * cntL l
 | [], _ => by simp [kidsG_nil, cntL]
 | ⟨a, b, q⟩ :: l, h => by
  simp only [smallL] at h
  have h1 := kids_len x q h.2.1
  have h2 := kids_len x l h.2.2
  have h3 := escL_len2 b.data.toList
  have h5 := sz_list a
  have h6 := sz_list b
  have h7 := sty_len x
  have h8 := attsG_len (stW x) q h.2.1
  rw [kidsG, cntL]
  simp only [List.length_append, List.length_cons]
  split
  ·
   simp only [List.length_nil]
   omega
  ·
   have h9 : (attsTx ((q.takeWhile attrB).map (attOf (stW x)))).length ≤ 20000 * q.length := by
    have := attsG_app (stW x) (q.takeWhile attrB) (q.dropWhile attrB)
    rw [List.takeWhile_append_dropWhile, attsG_at (stW x) _ (tw_all q)] at this
    rw [this, List.length_append] at h8
    omega
   have hE := endTx_len true
   have hF := endTx_len false
   simp only [List.length_append]
   unfold tagG
   split
   ·
    simp only [openTx, nmT, attsT', List.nil_append, List.length_append, List.length_cons]
    omega
   ·
    simp only [openTx, closeTx, nmT, attsT', saidTx, List.nil_append, List.length_append, List.length_cons, List.length_nil]
    split
    ·
     simp only [List.length_append]
     omega
    ·
     simp only [List.length_nil]
     omega
termination_by l => SizeOf.sizeOf l
theorem hd_name (k : S24) (h : 0 < k.f0.size) : (bt k.f0 0 = 64) ↔ attrB k = true := by
 have hd := drop_at k.f0 0 h
 rw [List.drop_zero] at hd
 unfold attrB
 rw [hd, show bt k.f0 0 = ((k.f0[0]'h).toNat : Int) from bt_of k.f0 0 h]
 rw [beq_iff_eq, ← UInt8.toNat_inj]
 show _ ↔ _ = 64
 omega
def baL (l : List UInt8) : ByteArray := ⟨l.toArray⟩
theorem baL_list (l : List UInt8) : (baL l).data.toList = l := by unfold baL; simp
theorem baL_size (l : List UInt8) : (baL l).size = l.length := rfl
theorem esc_f2 (s : ByteArray) (h : s.size ≤ 5000) : text_Escape.f s = some (baL (escL s.data.toList)) := B.escape_f s (by omega)
theorem dr_l0 (x : Int) (x7 a b : ByteArray) (R : ByteArray) : ∀ (l p : List S24) (x8 : ByteArray) (n : Nat), (∀ k ∈ l, 0 < k.f0.size) → smallL l → x8.size + 20000 * l.length ≤ 1000000000000 → (p ++ l).length ≤ 100000 → n ≤ p.length →
  Ev (fun k => remitterlaw10_draw.j4 k x x7 (baL (x8.data.toList ++ (attsG (stW x) l ++ (stW x).bl))) ((n + nE l : Nat) : Int) a b (p ++ l)) R →
  Ev (fun k => remitterlaw10_draw.l0 k x x7 x8 (n : Int) (p.length : Int) a b (p ++ l)) R
 | [], p, x8, n, h0, hs, hz, hl, hn, hR => by
  obtain ⟨K, hK⟩ := hR
  refine ⟨K + 1, fun k hk => ?_⟩
  obtain ⟨k, rfl⟩ : ∃ j, k = j + 1 := ⟨k - 1, by omega⟩
  have h1 := hK k (by omega)
  dsimp only at h1 ⊢
  rw [remitterlaw10_draw.l0, if_neg (by simp)]
  simp only [attsG, nE, Nat.add_zero, List.nil_append] at h1
  by_cases h4 : Go.bits .and .u8 x 4 = 4
  ·
   rw [if_pos h4, if_pos (by omega)]
   have e : x8 ++ (⟨#[10]⟩ : ByteArray) = baL (x8.data.toList ++ (stW x).bl) := ba_ext (by
    rw [ba_app, baL_list]
    unfold stW
    simp only
    rw [if_pos h4])
   rw [e]
   exact h1
  ·
   rw [if_neg h4]
   have e : x8 = baL (x8.data.toList ++ (stW x).bl) := ba_ext (by
    rw [baL_list]
    unfold stW
    simp only
    rw [if_neg h4, List.append_nil])
   rw [← e] at h1
   exact h1
 | q :: l, p, x8, n, h0, hs, hz, hl, hn, hR => by
  have hL : (p ++ q :: l).length = p.length + l.length + 1 := by simp; omega
  have hq0 := h0 q (by simp)
  have hq : q.f0.size + q.f1.size < 2000 ∧ smallL l := by
   obtain ⟨a, b, c⟩ := q
   simp only [smallL] at hs
   exact ⟨hs.1, hs.2.2⟩
  have hes := esc_f2 q.f1 (by omega)
  have hel := escL_len2 q.f1.data.toList
  have hz1 := sz_list q.f1
  have hx2 : (q.f0.extract 1 q.f0.size).size = q.f0.size - 1 := by rw [ByteArray.size_extract]; omega
  simp only [List.length_cons] at hz
  by_cases hb : attrB q = true
  ·
   have e : ∀ c : UInt8, (c = if Go.bits .and .u8 x 2 = 2 then 39 else 34) → (((((x8 ++ (⟨#[32]⟩ : ByteArray)) ++ (q.f0.extract 1 q.f0.size)) ++ (⟨#[61]⟩ : ByteArray)) ++ (⟨#[c]⟩ : ByteArray)) ++ baL (escL q.f1.data.toList)) ++ (⟨#[c]⟩ : ByteArray) = baL (x8.data.toList ++ attTx (attOf (stW x) q)) := by
    intro c hc
    refine ba_ext ?_
    simp only [ba_app, baL_list, attTx, attOf, ext_atL]
    have : (stW x).q = c := hc.symm
    rw [this]
    simp
   have hT := attTx_len (attOf (stW x) q)
   have hT2 := atL_len2 q
   obtain ⟨K, hK⟩ := dr_l0 x x7 a b R l (p ++ [q]) (baL (x8.data.toList ++ attTx (attOf (stW x) q))) n (fun k hk => h0 k (List.mem_cons_of_mem _ hk)) hq.2 (by
     rw [baL_size, List.length_append, hT, ← sz_list]
     simp only [attOf] at *
     omega) (by rw [List.append_assoc]; exact hl) (by simp; omega) (by
     obtain ⟨K, hK⟩ := hR
     refine ⟨K, fun k hk => ?_⟩
     have h1 := hK k hk
     dsimp only at h1 ⊢
     rw [attsG, if_pos hb, nE, if_pos hb, Nat.zero_add] at h1
     rw [List.append_assoc, List.singleton_append, baL_list]
     simp only [List.append_assoc] at h1 ⊢
     exact h1)
   refine ⟨K + 1, fun k hk => ?_⟩
   obtain ⟨k, rfl⟩ : ∃ j, k = j + 1 := ⟨k - 1, by omega⟩
   have h1 := hK k (by omega)
   simp only [List.append_assoc, List.singleton_append, List.length_append, List.length_singleton] at h1
   dsimp only
   rw [remitterlaw10_draw.l0, if_pos (by rw [hL]; omega), if_pos (by omega), rd_pre, if_pos (by omega), if_pos ((hd_name q hq0).2 hb)]
   by_cases h2 : Go.bits .and .u8 x 2 = 2
   ·
    rw [if_pos h2, if_pos (by omega), if_pos (by omega), if_pos (by simp only [ByteArray.size_append, hx2, baOf_sz2]; simp; omega), if_pos (by simp only [ByteArray.size_append, hx2, baOf_sz2]; simp; omega), if_pos (by simp only [ByteArray.size_append, hx2, baOf_sz2]; simp; omega), hes, Option.bind_some,
     if_pos (by simp only [ByteArray.size_append, hx2, baL_size, baOf_sz2]; simp; omega), if_pos (by simp only [ByteArray.size_append, hx2, baL_size, baOf_sz2]; simp; omega), w_succ p.length (by omega)]
    have e2 := e 39 (by rw [if_pos h2])
    rw [e2]
    exact h1
   ·
    rw [if_neg h2, if_pos (by omega), if_pos (by omega), if_pos (by simp only [ByteArray.size_append, hx2, baOf_sz2]; simp; omega), if_pos (by simp only [ByteArray.size_append, hx2, baOf_sz2]; simp; omega), if_pos (by simp only [ByteArray.size_append, hx2, baOf_sz2]; simp; omega), hes, Option.bind_some,
     if_pos (by simp only [ByteArray.size_append, hx2, baL_size, baOf_sz2]; simp; omega), if_pos (by simp only [ByteArray.size_append, hx2, baL_size, baOf_sz2]; simp; omega), w_succ p.length (by omega)]
    have e2 := e 34 (by rw [if_neg h2])
    rw [e2]
    exact h1
  ·
   obtain ⟨K, hK⟩ := dr_l0 x x7 a b R l (p ++ [q]) x8 (n + 1) (fun k hk => h0 k (List.mem_cons_of_mem _ hk)) hq.2 (by omega) (by rw [List.append_assoc]; exact hl) (by simp; omega) (by
     obtain ⟨K, hK⟩ := hR
     refine ⟨K, fun k hk => ?_⟩
     have h1 := hK k hk
     dsimp only at h1 ⊢
     rw [attsG, if_neg hb, nE, if_neg hb, List.nil_append, ← Nat.add_assoc] at h1
     rw [List.append_assoc, List.singleton_append]
     exact h1)
   refine ⟨K + 1, fun k hk => ?_⟩
   obtain ⟨k, rfl⟩ : ∃ j, k = j + 1 := ⟨k - 1, by omega⟩
   have h1 := hK k (by omega)
   simp only [List.append_assoc, List.singleton_append, List.length_append, List.length_singleton] at h1
   dsimp only
   rw [remitterlaw10_draw.l0, if_pos (by rw [hL]; omega), if_pos (by omega), rd_pre, if_pos (by omega), if_neg (fun h => hb ((hd_name q hq0).1 h)), w_succ p.length (by omega), w_succ n (by omega)]
   exact h1
theorem dr_l1 (x : Int) (x7 a b : ByteArray) : ∀ (l p : List S24) (x8 : ByteArray), (∀ k ∈ l, 0 < k.f0.size) → smallL l → x8.size + x7.size + 60000 * cntL l ≤ 1000000000000 → (p ++ l).length ≤ 100000 →
  (∀ k ∈ l, attrB k = false → Ev (fun n => remitterlaw10_draw.f n k.f0 k.f1 k.f2 x false) (baL (elG (stW x) [] k))) →
  Ev (fun k => remitterlaw10_draw.l1 k x x7 x8 (p.length : Int) a b (p ++ l)) (baL (x8.data.toList ++ (kidsG (stW x) l ++ (60 :: 47 :: (x7.data.toList ++ [62])))))
 | [], p, x8, h0, hs, hz, hl, ih => by
  refine ⟨1, fun k hk => ?_⟩
  obtain ⟨k, rfl⟩ : ∃ j, k = j + 1 := ⟨k - 1, by omega⟩
  dsimp only
  rw [remitterlaw10_draw.l1, if_neg (by simp), if_pos (by omega), if_pos (by simp only [ByteArray.size_append, baOf_sz2]; simp; omega), if_pos (by simp only [ByteArray.size_append, baOf_sz2]; simp; omega)]
  refine congrArg some (ba_ext ?_)
  simp only [ba_app, baL_list, kidsG_nil]
  simp
 | q :: l, p, x8, h0, hs, hz, hl, ih => by
  have hL : (p ++ q :: l).length = p.length + l.length + 1 := by simp; omega
  have hq0 := h0 q (by simp)
  have hkl := kids_len x (q :: l) hs
  have hq : q.f0.size + q.f1.size < 2000 ∧ smallL l := by
   obtain ⟨a, b, c⟩ := q
   simp only [smallL] at hs
   exact ⟨hs.1, hs.2.2⟩
  have hc : cntL (q :: l) = 1 + cntL q.f2 + cntL l := by obtain ⟨a, b, c⟩ := q; rw [cntL]
  rw [hc] at hz hkl
  by_cases hb : attrB q = true
  ·
   obtain ⟨K, hK⟩ := dr_l1 x x7 a b l (p ++ [q]) x8 (fun k hk => h0 k (List.mem_cons_of_mem _ hk)) hq.2 (by omega) (by rw [List.append_assoc]; exact hl) (fun k hk => ih k (List.mem_cons_of_mem _ hk))
   refine ⟨K + 1, fun k hk => ?_⟩
   obtain ⟨k, rfl⟩ : ∃ j, k = j + 1 := ⟨k - 1, by omega⟩
   have h1 := hK k (by omega)
   simp only [List.append_assoc, List.singleton_append, List.length_append, List.length_singleton] at h1
   dsimp only
   rw [remitterlaw10_draw.l1, if_pos (by rw [hL]; omega), if_pos (by omega), rd_pre, if_pos (by omega), if_pos ((hd_name q hq0).2 hb), w_succ p.length (by omega)]
   refine h1.trans ?_
   have e : kidsG (stW x) (q :: l) = kidsG (stW x) l := by
    obtain ⟨a, b, c⟩ := q
    rw [kidsG, if_pos hb, List.nil_append]
   rw [e]
  ·
   have hb' : attrB q = false := by simpa using hb
   rw [kidsG_cons _ _ _ hb'] at hkl ⊢
   simp only [List.length_append, List.length_cons] at hkl
   obtain ⟨K1, hK1⟩ := ih q (by simp) hb'
   have h7 := sty_len x
   have hx8 := sz_list x8
   obtain ⟨K2, hK2⟩ := dr_l1 x x7 a b l (p ++ [q]) (baL (x8.data.toList ++ (elG (stW x) [] q ++ (stW x).gap))) (fun k hk => h0 k (List.mem_cons_of_mem _ hk)) hq.2 (by
    rw [baL_size]
    simp only [List.length_append]
    have := kids_len x l hq.2
    have hone := kids_len x [q] (by obtain ⟨a, b, c⟩ := q; simp only [smallL] at hs ⊢; exact ⟨hs.1, hs.2.1, trivial⟩)
    rw [kidsG_cons _ _ _ hb', kidsG_nil, List.append_nil, show cntL [q] = 1 + cntL q.f2 from by obtain ⟨a, b, c⟩ := q; rw [cntL, cntL, Nat.add_zero]] at hone
    simp only [List.length_append, List.length_cons, List.length_nil] at hone
    omega) (by rw [List.append_assoc]; exact hl) (fun k hk => ih k (List.mem_cons_of_mem _ hk))
   refine ⟨K1 + K2 + 1, fun k hk => ?_⟩
   obtain ⟨k, rfl⟩ : ∃ j, k = j + 1 := ⟨k - 1, by omega⟩
   have h1 := hK1 k (by omega)
   have h2 := hK2 k (by omega)
   simp only [List.append_assoc, List.singleton_append, List.length_append, List.length_singleton] at h2
   dsimp only at h1 ⊢
   rw [remitterlaw10_draw.l1, if_pos (by rw [hL]; omega), if_pos (by omega), rd_pre, if_pos (by omega), if_neg (fun h => hb ((hd_name q hq0).1 h)), h1, Option.bind_some, if_pos (by rw [baL_size]; omega), w_succ p.length (by omega)]
   have fin : (baL ((baL (x8.data.toList ++ (elG (stW x) [] q ++ (stW x).gap))).data.toList ++ (kidsG (stW x) l ++ 60 :: 47 :: (x7.data.toList ++ [62])))) = baL (x8.data.toList ++ (elG (stW x) [] q ++ ((stW x).gap ++ kidsG (stW x) l) ++ 60 :: 47 :: (x7.data.toList ++ [62]))) := by
    rw [baL_list]
    simp only [List.append_assoc]
   by_cases hg : Go.bits .and .u8 x 64 = 64
   ·
    rw [if_pos hg, if_pos (by rw [ByteArray.size_append, baL_size]; omega)]
    have e : (x8 ++ baL (elG (stW x) [] q)) ++ (⟨#[32, 10, 32]⟩ : ByteArray) = baL (x8.data.toList ++ (elG (stW x) [] q ++ (stW x).gap)) := ba_ext (by
     simp only [ba_app, baL_list]
     have : (stW x).gap = [32, 10, 32] := by unfold stW; simp only; rw [if_pos hg]
     rw [this]
     simp)
    rw [e, ← fin]
    exact h2
   ·
    rw [if_neg hg]
    have e : (x8 ++ baL (elG (stW x) [] q)) = baL (x8.data.toList ++ (elG (stW x) [] q ++ (stW x).gap)) := ba_ext (by
     simp only [ba_app, baL_list]
     have : (stW x).gap = [] := by unfold stW; simp only; rw [if_neg hg]
     rw [this]
     simp)
    rw [e, ← fin]
    exact h2
end Go.Proofs.YtknfpggiigncpaaGreatDoor.G
