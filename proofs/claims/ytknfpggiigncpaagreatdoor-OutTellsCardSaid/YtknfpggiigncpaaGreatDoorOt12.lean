/- The document's form of an element, as it is printed: plain. -/
import Derived.Test.YtknfpggiigncpaaGreatDoorOt4
import Derived.Test.YtknfpggiigncpaaGreatDoorEx6
set_option linter.unusedVariables false
set_option linter.unusedSimpArgs false
namespace Go.Proofs.YtknfpggiigncpaaGreatDoor.E
open Go.RowKit Go.Proofs.YtknfpggiigncpaaGreatDoor.P Go.Proofs.YtknfpggiigncpaaGreatDoor.B
open Go.Proofs.YtknfpggiigncpaaGreatDoorW.PrintWords hiding Ev

/-- An attribute's form. -/
def attF (k : S24) : List UInt8 := 32 :: (atL k ++ ([61, 34] ++ (escL k.f1.data.toList ++ [34])))
def attsL : List S24 → List UInt8
  | [] => []
  | k :: l => (if attrB k = true then attF k else []) ++ attsL l
/-- An element's form. -/
def formL (a b : ByteArray) (at_ inn sp : List UInt8) : List UInt8 := 60 :: (a.data.toList ++ (sp ++ (at_ ++ (62 :: (escL b.data.toList ++ (inn ++ (60 :: 47 :: (a.data.toList ++ [62]))))))))
def innerL : List S24 → List UInt8
  | [] => []
  | ⟨a, b, q⟩ :: l => (if attrB ⟨a, b, q⟩ = true then [] else formL a b (attsL q) (innerL q) []) ++ innerL l
def elemL (v : S24) (sp : List UInt8) : List UInt8 := formL v.f0 v.f1 (attsL v.f2) (innerL v.f2) sp
theorem escL_len : ∀ l : List UInt8, (escL l).length ≤ 6 * l.length
  | [] => by simp [escL]
  | b :: r => by
    rw [escL_cons]
    have := escL_len r
    have := escByte_len b
    simp only [List.length_append, List.length_cons]
    omega
theorem atL_len (k : S24) : (atL k).length ≤ k.f0.size := by
  unfold atL
  rw [List.length_drop, B.sz_list]
  omega
theorem parts_len : ∀ l : List S24, smallL l → (attsL l).length + (innerL l).length ≤ 20000 * cntL l
  | [], _ => by simp [attsL, innerL, cntL]
  | ⟨a, b, q⟩ :: l, h => by
    simp only [smallL] at h
    have h1 := parts_len q h.2.1
    have h2 := parts_len l h.2.2
    have h3 := escL_len b.data.toList
    have h4 := atL_len ⟨a, b, q⟩
    have h5 := B.sz_list a
    have h6 := B.sz_list b
    simp only [attsL, innerL, cntL]
    by_cases hb : attrB ⟨a, b, q⟩ = true
    · rw [if_pos hb, if_pos hb]
      simp only [attF, List.length_append, List.length_cons, List.length_nil] at *
      omega
    · rw [if_neg hb, if_neg hb]
      simp only [formL, List.length_append, List.length_cons, List.length_nil] at *
      omega
termination_by l => SizeOf.sizeOf l
theorem esc_ev (s : ByteArray) (hs : s.size ≤ 5000) : Ev (fun k => remitterref08_Escape.f k s) ⟨(escL s.data.toList).toArray⟩ := by
  obtain ⟨K, hK⟩ := B.esc_l0 s hs s.size 0 ⟨#[]⟩ (by omega) (Nat.le_refl 0)
  refine ⟨K, fun k hk => ?_⟩
  have h1 := hK k hk
  dsimp only at h1 ⊢
  rw [remitterref08_Escape.f]
  refine h1.trans (congrArg some (ba_ext ?_))
  rw [ba_app]
  simp
theorem baOf_sz (l : List UInt8) : (⟨l.toArray⟩ : ByteArray).size = l.length := rfl
set_option maxHeartbeats 4000000 in
theorem el_l0 : ∀ (l p : List S24) (a b x5 x6 : ByteArray), smallL l → cntL l ≤ 100000 → x5.size + x6.size + 20000 * cntL l + a.size ≤ 1000000000000 → (p ++ l).length ≤ 100000 →
    Ev (fun k => remitterref11_element.l0 k x5 x6 (p.length : Int) a b (p ++ l)) ⟨(x5.data.toList ++ (attsL l ++ (62 :: (x6.data.toList ++ (innerL l ++ (60 :: 47 :: (a.data.toList ++ [62]))))))).toArray⟩
  | [], p, a, b, x5, x6, hs, hn0, hn, hl => by
    refine ⟨1, fun k hk => ?_⟩
    obtain ⟨k, rfl⟩ : ∃ j, k = j + 1 := ⟨k - 1, by omega⟩
    simp only [cntL] at hn
    dsimp only
    rw [remitterref11_element.l0, if_neg (by simp), if_pos (by omega), if_pos (by simp only [ByteArray.size_append, baOf_sz]; simp; omega), if_pos (by simp only [ByteArray.size_append, baOf_sz]; simp; omega), if_pos (by simp only [ByteArray.size_append, baOf_sz]; simp; omega), if_pos (by simp only [ByteArray.size_append, baOf_sz]; simp; omega)]
    refine congrArg some (ba_ext ?_)
    simp only [ba_app, attsL, innerL]
    simp
  | ⟨c, d, q⟩ :: l, p, a, b, x5, x6, hs, hn0, hn, hl => by
    have hL : (p ++ (⟨c, d, q⟩ : S24) :: l).length = p.length + l.length + 1 := by simp; omega
    have hp := parts_len (⟨c, d, q⟩ :: l) hs
    simp only [smallL] at hs
    simp only [cntL] at hn hn0
    obtain ⟨Ke, hKe⟩ := esc_ev d (by omega)
    have hed := escL_len d.data.toList
    have hd := B.sz_list d
    have hx2 : (c.extract 1 c.size).size = c.size - 1 := by rw [ByteArray.size_extract]; omega
    by_cases hb : attrB ⟨c, d, q⟩ = true
    · have hc : 1 ≤ (c.size : Int) := by
        unfold attrB at hb
        have := B.sz_list c
        cases hz : c.data.toList with
        | nil => rw [hz] at hb; cases hb
        | cons x y => rw [hz] at this; simp at this; omega
      obtain ⟨K2, hK2⟩ := el_l0 l (p ++ [⟨c, d, q⟩]) a b (((((x5 ++ (⟨#[32]⟩ : ByteArray)) ++ (c.extract 1 c.size)) ++ (⟨#[61, 34]⟩ : ByteArray)) ++ ⟨(escL d.data.toList).toArray⟩) ++ (⟨#[34]⟩ : ByteArray)) x6 hs.2.2 (by omega)
        (by simp only [ByteArray.size_append, baOf_sz, hx2]; simp; omega) (by rw [List.append_assoc]; exact hl)
      refine ⟨Ke + K2 + 2, fun k hk => ?_⟩
      obtain ⟨k, rfl⟩ : ∃ j, k = j + 2 := ⟨k - 2, by omega⟩
      have h1 := hKe (k + 1) (by omega)
      have h3 := hK2 (k + 1) (by omega)
      simp only [List.append_assoc, List.singleton_append, List.length_append, List.length_singleton] at h3
      dsimp only at h1 ⊢
      rw [remitterref11_element.l0, if_pos (by rw [hL]; omega), if_pos (by omega), rd_pre]
      dsimp only
      have hat := attr_f ⟨c, d, q⟩
      dsimp only at hat
      rw [hat, hb, Option.bind_some, if_pos rfl, if_pos (by omega), if_pos hc, if_pos (by simp only [ByteArray.size_append, baOf_sz, hx2]; simp; omega), if_pos (by simp only [ByteArray.size_append, baOf_sz, hx2]; simp; omega), h1, Option.bind_some,
        if_pos (by simp only [ByteArray.size_append, baOf_sz, hx2]; simp; omega), if_pos (by simp only [ByteArray.size_append, baOf_sz, hx2]; simp; omega), w_succ p.length (by omega)]
      refine h3.trans (congrArg some (ba_ext ?_))
      simp only [ba_app, attsL, innerL, if_pos hb, attF, atL, B.ext_list]
      rw [List.take_of_length_le (by simp)]
      simp
    · have hb' : attrB ⟨c, d, q⟩ = false := by simpa using hb
      obtain ⟨K1, hK1⟩ := el_l0 q [] c d (((⟨#[60]⟩ : ByteArray) ++ c) ++ ⟨#[]⟩) ⟨(escL d.data.toList).toArray⟩ hs.2.1 (by omega) (by simp only [ByteArray.size_append, baOf_sz]; simp; omega) (by have := len_cnt q; simp; omega)
      obtain ⟨K2, hK2⟩ := el_l0 l (p ++ [⟨c, d, q⟩]) a b x5 (x6 ++ ⟨(formL c d (attsL q) (innerL q) []).toArray⟩) hs.2.2 (by omega)
        (by
          rw [ByteArray.size_append, show (⟨(formL c d (attsL q) (innerL q) []).toArray⟩ : ByteArray).size = (formL c d (attsL q) (innerL q) []).length from rfl]
          have h4 := parts_len q hs.2.1
          have h5 := B.sz_list c
          simp only [formL, List.length_append, List.length_cons, List.length_nil]
          omega) (by rw [List.append_assoc]; exact hl)
      refine ⟨Ke + K1 + K2 + 3, fun k hk => ?_⟩
      obtain ⟨k, rfl⟩ : ∃ j, k = j + 3 := ⟨k - 3, by omega⟩
      have h0 := hKe (k + 1) (by omega)
      have h1 := hK1 (k + 1) (by omega)
      have h3 := hK2 (k + 2) (by omega)
      simp only [List.append_assoc, List.singleton_append, List.length_append, List.length_singleton] at h3
      simp only [List.nil_append, List.length_nil] at h1
      dsimp only at h0 ⊢
      rw [remitterref11_element.l0, if_pos (by rw [hL]; omega), if_pos (by omega), rd_pre]
      dsimp only
      have hat := attr_f ⟨c, d, q⟩
      dsimp only at hat
      rw [hat, hb', Option.bind_some, if_neg (by simp), remitterref11_element.f, if_pos (by omega), if_pos (by simp only [ByteArray.size_append, baOf_sz]; simp; omega), h0, Option.bind_some]
      have h1' : remitterref11_element.l0 (k + 1) (((⟨#[60]⟩ : ByteArray) ++ c) ++ ⟨#[]⟩) ⟨(escL d.data.toList).toArray⟩ 0 c d q = some ⟨(formL c d (attsL q) (innerL q) []).toArray⟩ := by
        refine h1.trans (congrArg some (ba_ext ?_))
        simp only [ba_app, formL]
        simp
      rw [h1', Option.bind_some, if_pos (by
        rw [show (⟨(formL c d (attsL q) (innerL q) []).toArray⟩ : ByteArray).size = (formL c d (attsL q) (innerL q) []).length from rfl]
        have h4 := parts_len q hs.2.1
        have h5 := B.sz_list c
        simp only [formL, List.length_append, List.length_cons, List.length_nil]
        omega), w_succ p.length (by omega)]
      refine h3.trans (congrArg some (ba_ext ?_))
      simp only [ba_app, attsL, innerL, if_neg hb]
      simp
termination_by l => SizeOf.sizeOf l
theorem elem_ev (v : S24) (sp : ByteArray) (h1 : v.f0.size + v.f1.size < 2000) (h2 : smallL v.f2) (h3 : cntL v.f2 ≤ 1000) (h4 : sp.size ≤ 5000) : Ev (fun k => remitterref11_element.f k v.f0 v.f1 v.f2 sp) ⟨(elemL v sp.data.toList).toArray⟩ := by
  obtain ⟨Ke, hKe⟩ := esc_ev v.f1 (by omega)
  have hed := escL_len v.f1.data.toList
  have hd := B.sz_list v.f1
  obtain ⟨K, hK⟩ := el_l0 v.f2 [] v.f0 v.f1 (((⟨#[60]⟩ : ByteArray) ++ v.f0) ++ sp) ⟨(escL v.f1.data.toList).toArray⟩ h2 (by omega) (by simp only [ByteArray.size_append, baOf_sz]; simp; omega) (by have := len_cnt v.f2; simp; omega)
  refine ⟨Ke + K + 1, fun k hk => ?_⟩
  obtain ⟨k, rfl⟩ : ∃ j, k = j + 1 := ⟨k - 1, by omega⟩
  have h0 := hKe k (by omega)
  have h1' := hK k (by omega)
  simp only [List.nil_append, List.length_nil] at h1'
  dsimp only at h0 ⊢
  rw [remitterref11_element.f, if_pos (by omega), if_pos (by simp only [ByteArray.size_append, baOf_sz]; simp; omega), h0, Option.bind_some]
  refine h1'.trans (congrArg some (ba_ext ?_))
  simp only [ba_app, elemL, formL]
  simp
/-- The head of a text. -/
def headL : List UInt8 := [60, 63, 120, 109, 108, 32, 118, 101, 114, 115, 105, 111, 110, 61, 34, 49, 46, 48, 34, 32, 101, 110, 99, 111, 100, 105, 110, 103, 61, 34, 85, 84, 70, 45, 56, 34, 63, 62, 10]
def spaceL (space : List UInt8) : List UInt8 := [32, 120, 109, 108, 110, 115, 61, 34] ++ (escL space ++ [34])
/-- A tree's text, in a space, or what is wrong. -/
def writeT (space : ByteArray) (v : S24) : ByteArray × Int :=
  if space.size = 0 ∨ goodB space.data.toList = false ∨ mayP v = false then (⟨#[]⟩, 1)
  else if 1048576 < (headL ++ elemL v (spaceL space.data.toList)).length then (⟨#[]⟩, 3) else (⟨(headL ++ elemL v (spaceL space.data.toList)).toArray⟩, 0)
set_option maxHeartbeats 4000000 in
theorem write_ev (space : ByteArray) (v : S24) (h0 : space.size ≤ 200) (h1 : v.f0.size + v.f1.size < 2000) (h2 : smallL v.f2) (h3 : cntL v.f2 ≤ 1000) : Ev (fun k => remitterref11_Write.f k space v.f0 v.f1 v.f2) (writeT space v) := by
  obtain ⟨K1, hK1⟩ := good_ev space (by omega)
  obtain ⟨K2, hK2⟩ := may_ev v h1 h2 h3
  obtain ⟨K3, hK3⟩ := esc_ev space (by omega)
  have hes := escL_len space.data.toList
  have hsp := B.sz_list space
  obtain ⟨K4, hK4⟩ := elem_ev v (((⟨#[32, 120, 109, 108, 110, 115, 61, 34]⟩ : ByteArray) ++ ⟨(escL space.data.toList).toArray⟩) ++ (⟨#[34]⟩ : ByteArray)) h1 h2 h3 (by simp only [ByteArray.size_append, baOf_sz]; simp; omega)
  refine ⟨K1 + K2 + K3 + K4 + 1, fun k hk => ?_⟩
  have g1 := hK1 k (by omega)
  have g2 := hK2 k (by omega)
  obtain ⟨j, rfl⟩ : ∃ j, k = j + 1 := ⟨k - 1, by omega⟩
  have g3 := hK3 j (by omega)
  have g4 := hK4 j (by omega)
  dsimp only at g1 g2 g3 g4 ⊢
  rw [remitterref11_Write.f]
  unfold writeT
  have hnil : (space.toList = ([] : List UInt8)) ↔ space.size = 0 := by rw [B.toL, hsp, List.length_eq_zero_iff]
  by_cases hz : space.size = 0
  · rw [if_pos (hnil.2 hz), if_pos (.inl hz), remitterref11_Write.j0, if_pos rfl]
  rw [if_neg (fun h => hz (hnil.1 h)), g1, Option.bind_some]
  cases hg : goodB space.data.toList with
  | false => rw [if_neg (by simp), if_pos (.inr (.inl rfl)), remitterref11_Write.j0, if_pos rfl]
  | true =>
    rw [if_pos rfl, g2, Option.bind_some]
    cases hm : mayP v with
    | false => rw [if_pos (.inr (.inr rfl)), remitterref11_Write.j0, if_pos (show (!false) = true from rfl)]
    | true =>
      rw [if_neg (by simp [hz]), remitterref11_Write.j0, if_neg (by simp), g3, Option.bind_some, if_pos (by rw [baOf_sz]; omega), if_pos (by simp only [ByteArray.size_append, baOf_sz]; simp; omega), g4, Option.bind_some]
      have hpl := parts_len v.f2 h2
      have hel : (elemL v (spaceL space.data.toList)).length ≤ 100000000 := by
        have h5 := B.sz_list v.f0
        have h6 := B.sz_list v.f1
        have h7 := escL_len v.f1.data.toList
        simp only [elemL, formL, spaceL, List.length_append, List.length_cons, List.length_nil]
        omega
      have e1 : ((((⟨#[32, 120, 109, 108, 110, 115, 61, 34]⟩ : ByteArray) ++ ⟨(escL space.data.toList).toArray⟩) ++ (⟨#[34]⟩ : ByteArray))).data.toList = spaceL space.data.toList := by
        simp only [ba_app, spaceL]
        simp
      rw [e1, if_pos (by rw [baOf_sz]; omega)]
      have e2 : (⟨#[60, 63, 120, 109, 108, 32, 118, 101, 114, 115, 105, 111, 110, 61, 34, 49, 46, 48, 34, 32, 101, 110, 99, 111, 100, 105, 110, 103, 61, 34, 85, 84, 70, 45, 56, 34, 63, 62, 10]⟩ : ByteArray) ++ ⟨(elemL v (spaceL space.data.toList)).toArray⟩ = ⟨(headL ++ elemL v (spaceL space.data.toList)).toArray⟩ := by
        refine ba_ext ?_
        simp only [ba_app, headL]
      rw [e2, baOf_sz]
      by_cases hb : 1048576 < (headL ++ elemL v (spaceL space.data.toList)).length
      · rw [if_pos (by omega), if_pos hb]
      · rw [if_neg (by omega), if_neg hb]
end Go.Proofs.YtknfpggiigncpaaGreatDoor.E
