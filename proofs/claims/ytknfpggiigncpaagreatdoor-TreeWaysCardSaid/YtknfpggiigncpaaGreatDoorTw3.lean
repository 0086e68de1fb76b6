/- What plain lets through, drawn: a text that is read as the tree. Plain Lean. -/
import Derived.Test.YtknfpggiigncpaaGreatDoorTw2
set_option maxHeartbeats 4000000
set_option linter.unusedVariables false
set_option linter.unusedSimpArgs false
namespace Go.Proofs.YtknfpggiigncpaaGreatDoor.G
open Go.RowKit P E
open B (Ev ba_ext ba_app drop_at bt_of w_succ toL ext_list sz_list)
open C (Att attTx attsTx attsTx_cons endTx NameOk isLet isNm)
open YtknfpggiigncpaaGreatDoorW.PrintWords
structure AtG (k : S24) : Prop where
 at_ : attrB k = true
 kids : k.f2 = []
 good : goodB k.f1.data.toList = true
 nm : nameP (atL k) = true
 xml : atL k ≠ [120, 109, 108, 110, 115]
theorem plK_el {sh : S24 → Bool} {ok nt : Bool} : ∀ (l prev : List S24), plK sh ok nt prev true l = true → (∀ k ∈ l, sh k = true) ∧ ok = true ∧ nt = true
 | [], prev, h => by
  simp only [plK, Bool.and_eq_true] at h
  exact ⟨(by intro k hk; cases hk), h.1, by simpa using h.2⟩
 | k :: l, prev, h => by
  simp only [plK] at h
  by_cases ha : at2B k = true
  ·
   rw [if_pos ha] at h
   simp at h
  ·
   rw [if_neg ha, Bool.and_eq_true] at h
   obtain ⟨h1, h2, h3⟩ := plK_el l _ h.2
   refine ⟨?_, h2, h3⟩
   intro x hx
   rcases List.mem_cons.1 hx with rfl | hx
   ·
    exact h.1
   ·
    exact h1 x hx
theorem dw_all {f : S24 → Bool} : ∀ (l : List S24), (∀ k ∈ l, f k = false) → l.dropWhile f = l ∧ l.takeWhile f = []
 | [], _ => ⟨rfl, rfl⟩
 | k :: l, h => by
  have := h k (by simp)
  rw [List.dropWhile_cons_of_neg (by rw [this]; simp), List.takeWhile_cons_of_neg (by rw [this]; simp)]
  exact ⟨rfl, rfl⟩
theorem plK_at {sh : S24 → Bool} {ok nt : Bool} (hsh : ∀ k, sh k = true → attrB k = false) : ∀ (l prev : List S24), plK sh ok nt prev false l = true →
  ok = true ∧ (∀ k ∈ l.takeWhile attrB, AtG k) ∧ ((l.takeWhile attrB).map fun k => k.f0.data.toList).Nodup ∧ (∀ k ∈ l.takeWhile attrB, ∀ b ∈ prev, b.f0.data.toList ≠ k.f0.data.toList) ∧ (∀ k ∈ l.dropWhile attrB, attrB k = false ∧ sh k = true) ∧ (noEl l = false → nt = true)
 | [], prev, h => by
  simp only [plK, Bool.and_eq_true] at h
  exact ⟨h.1, (by intro k hk; cases hk), List.nodup_nil, (by intro k hk; cases hk), (by intro k hk; cases hk), (by intro h; cases h)⟩
 | k :: l, prev, h => by
  simp only [plK] at h
  by_cases ha : at2B k = true
  ·
   rw [if_pos ha] at h
   simp only [Bool.and_eq_true] at h
   obtain ⟨_, h2, h3, h4, h5, h6, h7⟩ := h
   have hk : attrB k = true := by unfold at2B at ha; rw [Bool.and_eq_true] at ha; exact ha.2
   obtain ⟨i1, i2, i3, i4, i5, i6⟩ := plK_at hsh l _ h7
   rw [List.takeWhile_cons_of_pos hk, List.dropWhile_cons_of_pos hk]
   have h6' : ∀ b ∈ prev, b.f0.data.toList ≠ k.f0.data.toList := by
    intro b hb e
    have h8 : (prev.any fun b => b.f0.data.toList == k.f0.data.toList) = false := by simpa using h6
    rw [List.any_eq_false] at h8
    exact h8 b hb (beq_iff_eq.2 e)
   refine ⟨i1, ?_, ?_, ?_, i5, ?_⟩
   ·
    intro x hx
    rcases List.mem_cons.1 hx with rfl | hx
    ·
     exact ⟨hk, List.isEmpty_iff.1 h2, h3, h4, by
      intro e
      rw [e] at h5
      simp at h5⟩
    ·
     exact i2 x hx
   ·
    rw [List.map_cons, List.nodup_cons]
    refine ⟨?_, i3⟩
    intro hm
    obtain ⟨x, hx, e⟩ := List.mem_map.1 hm
    exact i4 x hx k (by simp) e.symm
   ·
    intro x hx b hb
    rcases List.mem_cons.1 hx with rfl | hx
    ·
     exact h6' b hb
    ·
     exact i4 x hx b (List.mem_append_left _ hb)
   ·
    unfold noEl
    rw [List.dropWhile_cons_of_pos hk]
    exact i6
  ·
   rw [if_neg ha, Bool.and_eq_true] at h
   obtain ⟨h1, h2, h3⟩ := plK_el l _ h.2
   have hall : ∀ x ∈ k :: l, attrB x = false ∧ sh x = true := by
    intro x hx
    rcases List.mem_cons.1 hx with rfl | hx
    ·
     exact ⟨hsh _ h.1, h.1⟩
    ·
     exact ⟨hsh _ (h1 x hx), h1 x hx⟩
   obtain ⟨e1, e2⟩ := dw_all (f := attrB) (k :: l) (fun x hx => (hall x hx).1)
   rw [e2]
   refine ⟨h2, (by intro x hx; cases hx), List.nodup_nil, (by intro x hx; cases hx), ?_, fun _ => h3⟩
   rw [e1]
   exact hall
theorem nameP_let {l : List UInt8} (h : nameP l = true) : (∃ b r, l = b :: r ∧ letN b = true) ∧ (∀ c ∈ l, letN c = true) ∧ l.length ≤ 20 := by
 unfold nameP at h
 simp only [Bool.and_eq_true, decide_eq_true_eq, List.all_eq_true] at h
 obtain ⟨⟨h1, h2⟩, h3⟩ := h
 cases l with
 | nil => cases h1
 | cons b r => exact ⟨⟨b, r, rfl, h3 b (by simp)⟩, h3, h2⟩
theorem letN_let : ∀ c : UInt8, letN c = true → isLet c = true ∧ isNm c = true ∧ c ≠ 58 ∧ c ≠ 64 ∧ c ≠ 63 ∧ c ≠ 60 ∧ c.toNat < 128 ∧ xmlB c.toNat = true := by
 have : ∀ n : Nat, n < 256 → letN (UInt8.ofNat n) = true → isLet (UInt8.ofNat n) = true ∧ isNm (UInt8.ofNat n) = true ∧ UInt8.ofNat n ≠ 58 ∧ UInt8.ofNat n ≠ 64 ∧ UInt8.ofNat n ≠ 63 ∧ UInt8.ofNat n ≠ 60 ∧ (UInt8.ofNat n).toNat < 128 ∧ xmlB (UInt8.ofNat n).toNat = true := by decide +kernel
 intro c hc
 have := this c.toNat c.toNat_lt
 rw [show UInt8.ofNat c.toNat = c by simp] at this
 exact this hc
theorem nameP_ok {l : List UInt8} (h : nameP l = true) : NameOk l ∧ (∀ c ∈ l, c ≠ 58) ∧ l ≠ [] := by
 obtain ⟨⟨b, r, e, hb⟩, h2, h3⟩ := nameP_let h
 exact ⟨⟨⟨b, r, e, (letN_let b hb).1⟩, fun c hc => (letN_let c (h2 c hc)).2.1, by omega⟩, fun c hc => (letN_let c (h2 c hc)).2.2.1, by rw [e]; simp⟩
theorem nm_ok (x : Int) {a : ByteArray} (h : nameP a.data.toList = true) : NameOk (nmT (stW x) a) := by
 obtain ⟨h1, h2, h3⟩ := nameP_ok h
 obtain ⟨⟨b, r, e, hb⟩, h5, h6⟩ := nameP_let h
 unfold nmT stW
 simp only
 split
 ·
  refine ⟨⟨112, 58 :: a.data.toList, rfl, by decide⟩, ?_, by simp only [List.cons_append, List.nil_append, List.length_cons]; omega⟩
  intro c hc
  simp only [List.cons_append, List.nil_append, List.mem_cons] at hc
  rcases hc with rfl | rfl | hc
  ·
   decide
  ·
   decide
  ·
   exact h1.2.1 c hc
 ·
  rw [List.nil_append]
  exact h1
theorem plT_name {d : Nat} {k : S24} (h : plT d k = true) : nameP k.f0.data.toList = true ∧ attrB k = false ∧ 0 < k.f0.size := by
 cases d with
 | zero => cases h
 | succ d =>
  simp only [plT, Bool.and_eq_true] at h
  obtain ⟨⟨b, r, e, hb⟩, h2, h3⟩ := nameP_let h.1
  refine ⟨h.1, ?_, by rw [sz_list, e]; simp⟩
  unfold attrB
  rw [e]
  exact beq_eq_false_iff_ne.2 (letN_let b hb).2.2.2.1
structure PlF (d : Nat) (v : S24) : Prop where
 nm : nameP v.f0.data.toList = true
 len : v.f2.length ≤ 20
 good : goodB v.f1.data.toList = true
 at_ : ∀ k ∈ v.f2.takeWhile attrB, AtG k
 dup : ((v.f2.takeWhile attrB).map fun k => k.f0.data.toList).Nodup
 el : ∀ k ∈ v.f2.dropWhile attrB, attrB k = false ∧ plT d k = true
 txt : noEl v.f2 = false → v.f1.data.toList = []
theorem plT_facts {d : Nat} {v : S24} (h : plT (d + 1) v = true) : PlF d v := by
 simp only [plT, Bool.and_eq_true, decide_eq_true_eq] at h
 obtain ⟨h1, h2, h3⟩ := h
 obtain ⟨i1, i2, i3, _, i5, i6⟩ := plK_at (fun k hk => (plT_name hk).2.1) _ _ h3
 exact ⟨h1, h2, i1, i2, i3, i5, fun h => List.isEmpty_iff.1 (i6 h)⟩
theorem at_cons {k : S24} (h : attrB k = true) : k.f0.data.toList = 64 :: atL k := by
 unfold attrB at h
 unfold atL
 cases e : k.f0.data.toList with
 | nil => rw [e] at h; cases h
 | cons b r =>
  rw [e] at h
  have : b = 64 := beq_iff_eq.1 h
  subst this
  rfl
theorem nodup_at : ∀ (l : List S24), (∀ k ∈ l, attrB k = true) → (l.map fun k => k.f0.data.toList).Nodup → (l.map atL).Nodup
 | [], _, _ => List.nodup_nil
 | k :: l, h, hn => by
  rw [List.map_cons, List.nodup_cons] at hn ⊢
  refine ⟨?_, nodup_at l (fun x hx => h x (List.mem_cons_of_mem _ hx)) hn.2⟩
  intro hm
  obtain ⟨x, hx, e⟩ := List.mem_map.1 hm
  apply hn.1
  refine List.mem_map.2 ⟨x, hx, ?_⟩
  rw [at_cons (h x (List.mem_cons_of_mem _ hx)), at_cons (h k (by simp)), e]
theorem ok_of_pl (x : Int) : ∀ (d : Nat) (v : S24), plT d v = true → okG (stW x) d v
 | 0, v, h => by cases h
 | d + 1, v, h => by
  have F := plT_facts h
  obtain ⟨n1, n2, n3⟩ := nameP_ok F.nm
  refine ⟨nm_ok x F.nm, n2, n3, F.good, ?_, nodup_at _ (tw_all v.f2) F.dup, ?_, fun k hk => ⟨(F.el k hk).1, ok_of_pl x d k (F.el k hk).2⟩, F.txt⟩
  ·
   intro k hk
   have A := F.at_ k hk
   obtain ⟨m1, m2, _⟩ := nameP_ok A.nm
   exact ⟨m1, m2, A.xml, A.kids, A.good⟩
  ·
   have : (v.f2.takeWhile attrB).length ≤ v.f2.length := (List.takeWhile_sublist _).length_le
   have := F.len
   omega
theorem pl_names {d : Nat} {v : S24} (F : PlF d v) : ∀ k ∈ v.f2, 0 < k.f0.size := by
 intro k hk
 have hs := List.takeWhile_append_dropWhile (p := attrB) (l := v.f2)
 rw [← hs] at hk
 rcases List.mem_append.1 hk with hk | hk
 ·
  rw [sz_list, at_cons (tw_all v.f2 k hk)]
  simp
 ·
  exact (plT_name (F.el k hk).2).2.2
theorem pl_kids {d : Nat} {v : S24} (F : PlF d v) : ∀ k ∈ v.f2, attrB k = false → plT d k = true := by
 intro k hk ha
 have hs := List.takeWhile_append_dropWhile (p := attrB) (l := v.f2)
 rw [← hs] at hk
 rcases List.mem_append.1 hk with hk | hk
 ·
  rw [tw_all v.f2 k hk] at ha
  cases ha
 ·
  exact (F.el k hk).2
def midR (x : Int) (x7 : List UInt8) (x8 : List UInt8) (n : Nat) (b : ByteArray) (l : List S24) : List UInt8 :=
 if n = 0 ∧ b.data.toList = [] ∧ (stW x).sc = true then x8 ++ [47, 62]
 else x8 ++ (62 :: ((stW x).rem ++ ((if n = 0 then escL b.data.toList ++ (stW x).cd else []) ++ (kidsG (stW x) l ++ (60 :: 47 :: (x7 ++ [62]))))))
theorem dr_mid (x : Int) (x7 a b : ByteArray) (l : List S24) (x8 : ByteArray) (n : Nat) (hb : b.size ≤ 5000) (h0 : ∀ k ∈ l, 0 < k.f0.size) (hs : smallL l) (hz : x8.size + x7.size + 60000 * cntL l ≤ 900000000000) (hl : l.length ≤ 100000)
  (ih : ∀ k ∈ l, attrB k = false → Ev (fun n => remitterlaw10_draw.f n k.f0 k.f1 k.f2 x false) (baL (elG (stW x) [] k))) :
  Ev (fun k => remitterlaw10_draw.j4 k x x7 x8 (n : Int) a b l) (baL (midR x x7.data.toList x8.data.toList n b l)) := by
 have hes := esc_f2 b hb
 have hel := escL_len2 b.data.toList
 have hzb := sz_list b
 have key : ∀ y : List UInt8, y.length + x7.size + 60000 * cntL l ≤ 1000000000000 → Ev (fun k => remitterlaw10_draw.l1 k x x7 (baL y) 0 a b l) (baL (y ++ (kidsG (stW x) l ++ (60 :: 47 :: (x7.data.toList ++ [62]))))) := by
  intro y hy
  have := dr_l1 x x7 a b l [] (baL y) h0 hs (by rw [baL_size]; exact hy) (by simpa using hl) ih
  rw [baL_list] at this
  exact this
 have hx8 := sz_list x8
 -- behind the comment
 have k6 : ∀ y : List UInt8, y.length + x7.size + 60000 * cntL l ≤ 950000000000 → Ev (fun k => remitterlaw10_draw.j6 k x x7 (baL y) (n : Int) a b l) (baL (y ++ ((if n = 0 then escL b.data.toList ++ (stW x).cd else []) ++ (kidsG (stW x) l ++ (60 :: 47 :: (x7.data.toList ++ [62])))))) := by
  intro y hy
  by_cases hn : n = 0
  ·
   rw [if_pos hn]
   have h7 := sty_len x
   obtain ⟨K, hK⟩ := key (y ++ (escL b.data.toList ++ (stW x).cd)) (by simp only [List.length_append]; omega)
   refine ⟨K + 2, fun k hk => ?_⟩
   obtain ⟨k, rfl⟩ : ∃ j, k = j + 2 := ⟨k - 2, by omega⟩
   have h1 := hK k (by omega)
   dsimp only at h1 ⊢
   rw [remitterlaw10_draw.j6, if_pos (by omega), hes, Option.bind_some, if_pos (by simp only [baL_size]; omega)]
   rw [List.append_assoc] at h1
   by_cases hc : Go.bits .and .u8 x 32 = 32
   ·
    rw [if_pos hc, if_pos (by rw [ByteArray.size_append]; simp only [baL_size]; omega), remitterlaw10_draw.j7]
    have e : (baL y ++ baL (escL b.data.toList)) ++ (⟨#[60, 33, 91, 67, 68, 65, 84, 65, 91, 93, 93, 62]⟩ : ByteArray) = baL (y ++ (escL b.data.toList ++ (stW x).cd)) := ba_ext (by
     simp only [ba_app, baL_list]
     have : (stW x).cd = cdL := by unfold stW; simp only; rw [if_pos hc]
     rw [this]
     simp [cdL])
    rw [e]
    exact h1
   ·
    rw [if_neg hc, remitterlaw10_draw.j7]
    have e : baL y ++ baL (escL b.data.toList) = baL (y ++ (escL b.data.toList ++ (stW x).cd)) := ba_ext (by
     simp only [ba_app, baL_list]
     have : (stW x).cd = [] := by unfold stW; simp only; rw [if_neg hc]
     rw [this]
     simp)
    rw [e]
    exact h1
  ·
   rw [if_neg hn, List.nil_append]
   obtain ⟨K, hK⟩ := key y (by omega)
   refine ⟨K + 2, fun k hk => ?_⟩
   obtain ⟨k, rfl⟩ : ∃ j, k = j + 2 := ⟨k - 2, by omega⟩
   have h1 := hK k (by omega)
   dsimp only at h1 ⊢
   rw [remitterlaw10_draw.j6, if_neg (by omega), remitterlaw10_draw.j7]
   exact h1
 have k5 : ∀ sc : Bool, sc = false → Ev (fun k => remitterlaw10_draw.j5 k x x7 x8 (n : Int) sc a b l) (baL (x8.data.toList ++ (62 :: ((stW x).rem ++ ((if n = 0 then escL b.data.toList ++ (stW x).cd else []) ++ (kidsG (stW x) l ++ (60 :: 47 :: (x7.data.toList ++ [62])))))))) := by
  intro sc hsc
  subst hsc
  have h7 := sty_len x
  obtain ⟨K, hK⟩ := k6 (x8.data.toList ++ (62 :: (stW x).rem)) (by simp only [List.length_append, List.length_cons]; omega)
  refine ⟨K + 1, fun k hk => ?_⟩
  obtain ⟨k, rfl⟩ : ∃ j, k = j + 1 := ⟨k - 1, by omega⟩
  have h1 := hK k (by omega)
  dsimp only at h1 ⊢
  rw [List.append_assoc, List.cons_append] at h1
  rw [remitterlaw10_draw.j5, if_neg (by simp), if_pos (by omega)]
  by_cases hr : Go.bits .and .u8 x 16 = 16
  ·
   rw [if_pos hr, if_pos (by rw [ByteArray.size_append, show (⟨#[62]⟩ : ByteArray).size = 1 from rfl]; omega)]
   have e : (x8 ++ (⟨#[62]⟩ : ByteArray)) ++ (⟨#[60, 33, 45, 45, 32, 120, 32, 45, 45, 62]⟩ : ByteArray) = baL (x8.data.toList ++ (62 :: (stW x).rem)) := ba_ext (by
    simp only [ba_app, baL_list]
    have : (stW x).rem = remL := by unfold stW; simp only; rw [if_pos hr]
    rw [this]
    simp [remL])
   rw [e]
   exact h1
  ·
   rw [if_neg hr]
   have e : x8 ++ (⟨#[62]⟩ : ByteArray) = baL (x8.data.toList ++ (62 :: (stW x).rem)) := ba_ext (by
    simp only [ba_app, baL_list]
    have : (stW x).rem = [] := by unfold stW; simp only; rw [if_neg hr]
    rw [this])
   rw [e]
   exact h1
 by_cases hn : n = 0 ∧ b.data.toList = []
 ·
  obtain ⟨hn0, hb0⟩ := hn
  by_cases hsc : (stW x).sc = true
  ·
   have hbit : Go.bits .and .u8 x 8 = 8 := by unfold stW at hsc; simpa using hsc
   unfold midR
   rw [if_pos ⟨hn0, hb0, hsc⟩]
   refine ⟨2, fun k hk => ?_⟩
   obtain ⟨k, rfl⟩ : ∃ j, k = j + 2 := ⟨k - 2, by omega⟩
   dsimp only
   rw [remitterlaw10_draw.j4, if_pos (by omega), toL, if_pos hb0, remitterlaw10_draw.j5, if_pos (beq_iff_eq.2 hbit), if_pos (by omega)]
   refine congrArg some (ba_ext ?_)
   simp only [ba_app, baL_list]
  ·
   have hbit : (Go.bits .and .u8 x 8 == 8) = false := by
    rw [beq_eq_false_iff_ne]
    intro e
    apply hsc
    unfold stW
    simpa using e
   unfold midR
   rw [if_neg (fun h => hsc h.2.2)]
   obtain ⟨K, hK⟩ := k5 false rfl
   refine ⟨K + 1, fun k hk => ?_⟩
   obtain ⟨k, rfl⟩ : ∃ j, k = j + 1 := ⟨k - 1, by omega⟩
   have h1 := hK k (by omega)
   dsimp only at h1 ⊢
   rw [remitterlaw10_draw.j4, if_pos (by omega), toL, if_pos hb0, hbit]
   exact h1
 ·
  unfold midR
  rw [if_neg (fun h => hn ⟨h.1, h.2.1⟩)]
  obtain ⟨K, hK⟩ := k5 false rfl
  refine ⟨K + 1, fun k hk => ?_⟩
  obtain ⟨k, rfl⟩ : ∃ j, k = j + 1 := ⟨k - 1, by omega⟩
  have h1 := hK k (by omega)
  dsimp only at h1 ⊢
  rw [remitterlaw10_draw.j4, toL]
  by_cases hn0 : n = 0
  ·
   rw [if_pos (by omega), if_neg (fun h => hn ⟨hn0, h⟩)]
   exact h1
  ·
   rw [if_neg (by omega)]
   exact h1
theorem draw_ev (x : Int) : ∀ (d : Nat) (v : S24) (root : Bool), plT d v = true → v.f0.size + v.f1.size < 2000 → smallL v.f2 → cntL v.f2 ≤ 1000 → Ev (fun k => remitterlaw10_draw.f k v.f0 v.f1 v.f2 x root) (baL (elG (stW x) (raW x root) v))
 | 0, v, root, h, _, _, _ => by cases h
 | d + 1, v, root, h, hsz, hsm, hcn => by
  have F := plT_facts h
  have hnm := pl_names F
  have hkd := pl_kids F
  have hlen := F.len
  have ih : ∀ k ∈ v.f2, attrB k = false → Ev (fun n => remitterlaw10_draw.f n k.f0 k.f1 k.f2 x false) (baL (elG (stW x) [] k)) := by
   intro k hk ha
   have h1 := small_mem v.f2 k hk hsm
   have h2 := cnt_mem v.f2 k hk
   exact draw_ev x d k false (hkd k hk ha) h1.1 h1.2 (by omega)
  have hsep : ∀ k ∈ v.f2.dropWhile attrB, attrB k = false := fun k hk => (F.el k hk).1
  have h7 := sty_len x
  have hz0 := sz_list v.f0
  have hag := attsG_len (stW x) v.f2 hsm
  -- behind the name
  have main : ∀ (ra : List Att), (attsTx ra).length ≤ 100 → Ev (fun k => remitterlaw10_draw.l0 k x (baL (nmT (stW x) v.f0)) (baL (60 :: (nmT (stW x) v.f0 ++ attsTx ra))) 0 0 v.f0 v.f1 v.f2) (baL (elG (stW x) ra v)) := by
   intro ra hra
   have hnl : (nmT (stW x) v.f0).length ≤ 2002 := by
    unfold nmT
    rw [List.length_append]
    omega
   have m := dr_mid x (baL (nmT (stW x) v.f0)) v.f0 v.f1 v.f2 (baL ((60 :: (nmT (stW x) v.f0 ++ attsTx ra)) ++ (attsG (stW x) v.f2 ++ (stW x).bl))) (nE v.f2) (by omega) hnm hsm (by
    simp only [baL_size, List.length_append, List.length_cons]
    omega) (by omega) ih
   have l := dr_l0 x (baL (nmT (stW x) v.f0)) v.f0 v.f1 (baL (midR x (nmT (stW x) v.f0) ((60 :: (nmT (stW x) v.f0 ++ attsTx ra)) ++ (attsG (stW x) v.f2 ++ (stW x).bl)) (nE v.f2) v.f1 v.f2)) v.f2 [] (baL (60 :: (nmT (stW x) v.f0 ++ attsTx ra))) 0 hnm hsm (by
    simp only [baL_size, List.length_append, List.length_cons]
    omega) (by simpa using (show v.f2.length ≤ 100000 by omega)) (Nat.le_refl _) (by
     simp only [baL_list, Nat.zero_add, List.nil_append] at m ⊢
     exact m)
   have e : midR x (nmT (stW x) v.f0) ((60 :: (nmT (stW x) v.f0 ++ attsTx ra)) ++ (attsG (stW x) v.f2 ++ (stW x).bl)) (nE v.f2) v.f1 v.f2 = elG (stW x) ra v := by
    rw [attsG_sep (stW x) v.f2 hsep]
    unfold midR elG tagG selfT openTx attsT' saidTx closeTx
    have ea : attsTx (ra ++ (v.f2.takeWhile attrB).map (attOf (stW x))) = attsTx ra ++ attsTx ((v.f2.takeWhile attrB).map (attOf (stW x))) := List.flatMap_append ..
    rw [ea]
    by_cases hne : noEl v.f2 = true
    ·
     have hn0 := (nE_sep v.f2 hsep).2 hne
     by_cases hb0 : v.f1.data.toList = []
     ·
      cases hsc : (stW x).sc
      ·
       simp [hne, hn0, hb0, endTx]
      ·
       simp [hne, hn0, hb0, endTx]
     ·
      have hb1 : v.f1.data.toList.isEmpty = false := by cases hh : v.f1.data.toList with | nil => exact absurd hh hb0 | cons => rfl
      rw [if_neg (fun h => hb0 h.2.1)]
      simp [hb1, hn0, hne, endTx]
    ·
     have hn0 : nE v.f2 ≠ 0 := fun h => hne ((nE_sep v.f2 hsep).1 h)
     have hne' : noEl v.f2 = false := by simpa using hne
     rw [if_neg (fun h => hn0 h.1)]
     simp [hn0, hne', endTx]
   rw [e] at l
   exact l
  have hbig : (nmT (stW x) v.f0).length ≤ 2002 := by
   unfold nmT
   rw [List.length_append]
   omega
  have j0ev : Ev (fun k => remitterlaw10_draw.j0 k x root (baL (nmT (stW x) v.f0)) v.f0 v.f1 v.f2) (baL (elG (stW x) (raW x root) v)) := by
   have e0 : (⟨#[60]⟩ : ByteArray) ++ baL (nmT (stW x) v.f0) = baL (60 :: nmT (stW x) v.f0) := ba_ext (by simp only [ba_app, baL_list]; rfl)
   cases root with
   | false =>
    obtain ⟨K, hK⟩ := main [] (by decide)
    refine ⟨K + 3, fun k hk => ?_⟩
    obtain ⟨k, rfl⟩ : ∃ j, k = j + 3 := ⟨k - 3, by omega⟩
    have h1 := hK k (by omega)
    dsimp only at h1 ⊢
    rw [remitterlaw10_draw.j0, if_pos (by rw [baL_size]; omega), if_neg (by simp), e0, remitterlaw10_draw.j1, if_neg (by simp), if_neg (by simp), remitterlaw10_draw.j2]
    rw [show attsTx [] = [] from rfl, List.append_nil] at h1
    exact h1
   | true =>
    obtain ⟨K, hK⟩ := main (raW x true) (by
     unfold raW rootA
     rw [if_pos rfl]
     show (attTx _ ++ []).length ≤ 100
     rw [List.append_nil, attTx_len]
     simp only
     split <;> decide)
    refine ⟨K + 3, fun k hk => ?_⟩
    obtain ⟨k, rfl⟩ : ∃ j, k = j + 3 := ⟨k - 3, by omega⟩
    have h1 := hK k (by omega)
    dsimp only at h1 ⊢
    rw [remitterlaw10_draw.j0, if_pos (by rw [baL_size]; omega), if_pos rfl, e0, remitterlaw10_draw.j1]
    by_cases hp : Go.bits .and .u8 x 1 = 1
    ·
     rw [if_pos (beq_iff_eq.2 hp), if_pos (by simp only [baL_size, List.length_cons]; omega), remitterlaw10_draw.j2]
     have hpre : (stW x).pre = [112, 58] := by unfold stW; simp only; rw [if_pos hp]
     have e1 : baL (60 :: nmT (stW x) v.f0) ++ (⟨#[32, 120, 109, 108, 110, 115, 58, 112, 61, 34, 117, 34]⟩ : ByteArray) = baL (60 :: (nmT (stW x) v.f0 ++ attsTx (raW x true))) := ba_ext (by
      simp only [ba_app, baL_list]
      unfold raW rootA
      rw [if_pos rfl, hpre, if_neg (by simp), if_pos hp]
      simp [attsTx, attTx])
     rw [e1]
     exact h1
    ·
     rw [if_neg (by simpa using hp), if_pos rfl, if_pos (by simp only [baL_size, List.length_cons]; omega), remitterlaw10_draw.j2]
     have hpre : (stW x).pre = [] := by unfold stW; simp only; rw [if_neg hp]
     have e1 : baL (60 :: nmT (stW x) v.f0) ++ (⟨#[32, 120, 109, 108, 110, 115, 61, 39, 117, 39]⟩ : ByteArray) = baL (60 :: (nmT (stW x) v.f0 ++ attsTx (raW x true))) := ba_ext (by
      simp only [ba_app, baL_list]
      unfold raW rootA
      rw [if_pos rfl, hpre, if_pos rfl, if_neg hp]
      simp [attsTx, attTx])
     rw [e1]
     exact h1
  obtain ⟨K, hK⟩ := j0ev
  refine ⟨K + 1, fun k hk => ?_⟩
  obtain ⟨k, rfl⟩ : ∃ j, k = j + 1 := ⟨k - 1, by omega⟩
  have h1 := hK k (by omega)
  dsimp only at h1 ⊢
  rw [remitterlaw10_draw.f]
  by_cases hp : Go.bits .and .u8 x 1 = 1
  ·
   rw [if_pos hp, if_pos (by omega)]
   have hpre : (stW x).pre = [112, 58] := by unfold stW; simp only; rw [if_pos hp]
   have e1 : (⟨#[112, 58]⟩ : ByteArray) ++ v.f0 = baL (nmT (stW x) v.f0) := ba_ext (by
    simp only [ba_app, baL_list, nmT]
    rw [hpre])
   rw [e1]
   exact h1
  ·
   rw [if_neg hp]
   have hpre : (stW x).pre = [] := by unfold stW; simp only; rw [if_neg hp]
   have e1 : v.f0 = baL (nmT (stW x) v.f0) := ba_ext (by
    simp only [baL_list, nmT]
    rw [hpre]
    rfl)
   rw [← e1] at h1
   exact h1
end Go.Proofs.YtknfpggiigncpaaGreatDoor.G
