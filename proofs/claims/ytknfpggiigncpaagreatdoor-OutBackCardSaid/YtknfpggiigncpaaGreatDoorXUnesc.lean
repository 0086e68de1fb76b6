/- text.Unescape: its contract. -/
import Derived.Test.YtknfpggiigncpaaGreatDoorAx1
import Derived.Lib.IndexMore
import Derived.Lib.Bytealg
import Derived.Test.YtknfpggiigncpaaGreatDoorXRef
set_option linter.unusedVariables false
set_option linter.unusedSimpArgs false
section
namespace Go.Proofs.YtknfpggiigncpaaGreatDoor.P
theorem semi_len : ∀ (l i : List UInt8), semi l = some i → i.length < l.length
 | [], i, h => by simp [semi] at h
 | b :: r, i, h => by
  unfold semi at h
  split at h
  ·
   obtain rfl := Option.some.inj h; simp
  ·
   cases hr : semi r with
   | none => rw [hr] at h; cases h
   | some j =>
    rw [hr] at h
    obtain rfl := Option.some.inj h
    have := semi_len r j hr
    simp
    omega
theorem unL_fuel : ∀ (n f g : Nat) (l : List UInt8) (pos : Nat) (out : List UInt8), l.length ≤ n → l.length < f → l.length < g → unL f l pos out = unL g l pos out
 | n, 0, _, _, _, _, _, h, _ => by omega
 | n, _, 0, _, _, _, _, _, h => by omega
 | n, f + 1, g + 1, [], pos, out, _, _, _ => rfl
 | 0, f + 1, g + 1, b :: r, pos, out, hn, _, _ => by simp at hn
 | n + 1, f + 1, g + 1, b :: r, pos, out, hn, hf, hg => by
  simp only [List.length_cons] at hn hf hg
  simp only [unL]
  split
  ·
   split
   ·
    rfl
   ·
    rename_i i c he
    exact unL_fuel n f g _ _ _ (by simp; omega) (by simp; omega) (by simp; omega)
  ·
   exact unL_fuel n f g _ _ _ (by omega) (by omega) (by omega)
def un (l : List UInt8) (pos : Nat) (out : List UInt8) : List UInt8 × Nat × Int := unL (l.length + 1) l pos out
theorem un_eq (f : Nat) (l : List UInt8) (pos : Nat) (out : List UInt8) (h : l.length < f) : unL f l pos out = un l pos out := unL_fuel l.length f _ l pos out (Nat.le_refl _) h (by omega)
theorem un_nil (pos : Nat) (out : List UInt8) : un [] pos out = (out, pos, 0) := rfl
theorem un_plain (b : UInt8) (r : List UInt8) (pos : Nat) (out : List UInt8) (h : b ≠ 38) : un (b :: r) pos out = un r (pos + 1) (out ++ [b]) := by
 unfold un
 simp only [unL, if_neg h, List.length_cons]
theorem un_bad (r : List UInt8) (pos : Nat) (out : List UInt8) (h : (semi (r.take 13)).bind (fun i => refV i) = none) : un (38 :: r) pos out = ([], pos, 22) := by
 unfold un
 simp only [unL, if_true]
 cases hs : semi (r.take 13) with
 | none => rfl
 | some i =>
  rw [hs] at h
  have h' : refV i = none := h
  simp [h']
theorem un_ref (r : List UInt8) (pos : Nat) (out i : List UInt8) (c : Nat) (hs : semi (r.take 13) = some i) (hr : refV i = some c) : un (38 :: r) pos out = un (r.drop (i.length + 1)) (pos + i.length + 2) (out ++ Lib.encodeRune (c : Int)) := by
 unfold un
 rw [List.length_cons]
 simp only [unL, if_true, hs, hr, Option.bind_some, Option.map_some]
 exact un_eq _ _ _ _ (by simp; omega)
theorem un_skip : ∀ (p r : List UInt8) (pos : Nat) (out : List UInt8), (∀ b ∈ p, b ≠ 38) → un (p ++ r) pos out = un r (pos + p.length) (out ++ p)
 | [], r, pos, out, _ => by simp
 | b :: p, r, pos, out, h => by
  rw [List.cons_append, un_plain _ _ _ _ (h b (by simp)), un_skip p r _ _ (fun x hx => h x (List.mem_cons_of_mem _ hx))]
  congr 1
  ·
   simp; omega
  ·
   simp
theorem un_all (p : List UInt8) (pos : Nat) (out : List UInt8) (h : ∀ b ∈ p, b ≠ 38) : un p pos out = (out ++ p, pos + p.length, 0) := by
 have := un_skip p [] pos out h
 rw [List.append_nil] at this
 rw [this, un_nil]
theorem indexByte_split : ∀ (l : List UInt8) (c : UInt8), (Lib.indexByte l c < 0 → ∀ b ∈ l, b ≠ c) ∧ (∀ k : Nat, Lib.indexByte l c = k → k < l.length ∧ (∀ b ∈ l.take k, b ≠ c) ∧ l.drop k = c :: l.drop (k + 1))
 | [], c => by
  refine ⟨fun _ b hb => (by cases hb), fun k hk => ?_⟩
  simp only [Lib.indexByte] at hk
  omega
 | x :: l, c => by
  obtain ⟨h1, h2⟩ := indexByte_split l c
  unfold Lib.indexByte
  by_cases hx : x = c
  ·
   have hb : (x == c) = true := beq_iff_eq.2 hx
   rw [hb]
   refine ⟨fun h => absurd h (by simp), fun k hk => ?_⟩
   simp at hk
   obtain rfl : k = 0 := by omega
   simp [hx]
  ·
   have hb : (x == c) = false := beq_eq_false_iff_ne.2 hx
   rw [hb]
   simp only [Bool.false_eq_true, if_false]
   by_cases hi : Lib.indexByte l c = -1
   ·
    rw [hi]
    refine ⟨fun _ b hb => ?_, fun k hk => ?_⟩
    ·
     rcases List.mem_cons.1 hb with rfl | hb
     ·
      exact hx
     ·
      exact h1 (by omega) b hb
    ·
     simp at hk
   ·
    have hb2 : (Lib.indexByte l c == -1) = false := beq_eq_false_iff_ne.2 hi
    rw [hb2]
    simp only [Bool.false_eq_true, if_false]
    have hge := Lib.indexByte_ge l c
    refine ⟨fun h => by omega, fun k hk => ?_⟩
    obtain ⟨k, rfl⟩ : ∃ j, k = j + 1 := ⟨k - 1, by omega⟩
    obtain ⟨h3, h4, h5⟩ := h2 k (by omega)
    refine ⟨by simp; omega, fun b hb => ?_, by simpa using h5⟩
    rw [List.take_succ_cons] at hb
    rcases List.mem_cons.1 hb with rfl | hb
    ·
     exact hx
    ·
     exact h4 b hb
theorem refV_len (i : List UInt8) (c : Nat) (h : refV i = some c) : 2 ≤ i.length := by
 match i with
 | [] => simp [refV] at h
 | [b] =>
  exfalso
  unfold refV at h
  split at h
  ·
   rename_i heq; simp at heq
  ·
   rename_i heq; simp at heq; obtain ⟨rfl, rfl⟩ := heq; simp [numRef] at h
  ·
   simp at h
 | _ :: _ :: _ => simp
end Go.Proofs.YtknfpggiigncpaaGreatDoor.P
end
section
namespace Go.Proofs.YtknfpggiigncpaaGreatDoor.P
open Go.RowKit YtknfpggiigncpaaGreatDoorW.PrintWords
theorem ownsRowF_below {W W' : World} {B e size n : Nat} {v : Value} {xs : List Value} (h : W.ownsRowF B e size v n xs) (hb : Below W.heap.size W W') : W'.ownsRowF B e size v n xs :=
 h.kept (grown_of_below hb none) (by cases v.ownBlock <;> simp)
theorem builder_below {W W' : World} {T e B b : Nat} {bs : List Value} (h : Lib.IsBuilderF T e B b bs W) (hb : Below W.heap.size W W') : Lib.IsBuilderF T e B b bs W' := by
 have key : ∀ p, Lib.BuilderAtF T e B b p bs W → Lib.BuilderAtF T e B b p bs W' := by
  rintro p ⟨h1, v, h2, h3, h4⟩
  exact ⟨h1, v, (hb.block b (Array.getElem?_eq_some_iff.1 h2).1).trans h2, ownsRowF_below h3 hb, h4⟩
 exact h.elim (fun h => .inl (key _ h)) (fun h => .inr (key _ h))
theorem xmlB_max {n : Nat} (h : xmlB n = true) : n ≤ 1114111 := by
 unfold xmlB at h
 simp at h
 omega
theorem numRef_max {b : Nat} {l : List UInt8} {c : Nat} (h : numRef b l = some c) : c ≤ 1114111 := by
 unfold numRef at h
 split at h
 ·
  cases h
 ·
  cases hn : numV b l 0 with
  | none => rw [hn] at h; cases h
  | some n =>
   rw [hn, Option.bind_some] at h
   split at h
   ·
    rename_i hx
    obtain rfl := Option.some.inj h
    exact xmlB_max hx
   ·
    cases h
theorem refV_max (l : List UInt8) (c : Nat) (h : refV l = some c) : c ≤ 1114111 := by
 unfold refV at h
 split at h
 ·
  exact numRef_max h
 ·
  exact numRef_max h
 ·
  repeat' split at h
  all_goals first
   | (obtain rfl := Option.some.inj h; omega)
   | cases h
theorem semi_index : ∀ l : List UInt8, (Lib.indexByte l 59 < 0 → semi l = none) ∧ (∀ k : Nat, Lib.indexByte l 59 = k → semi l = some (l.take k))
 | [] => ⟨fun _ => rfl, fun k h => by simp only [Lib.indexByte] at h; omega⟩
 | x :: l => by
  obtain ⟨h1, h2⟩ := semi_index l
  unfold Lib.indexByte semi
  by_cases hx : x = 59
  ·
   rw [beq_iff_eq.2 hx]
   refine ⟨fun h => absurd h (by simp), fun k hk => ?_⟩
   simp at hk
   obtain rfl : k = 0 := by omega
   simp [hx]
  ·
   rw [beq_eq_false_iff_ne.2 hx, if_neg hx]
   simp only [Bool.false_eq_true, if_false]
   by_cases hi : Lib.indexByte l 59 = -1
   ·
    rw [hi]
    refine ⟨fun _ => by rw [h1 (by omega)]; rfl, fun k hk => ?_⟩
    simp at hk
   ·
    rw [beq_eq_false_iff_ne.2 hi]
    simp only [Bool.false_eq_true, if_false]
    have hge := Lib.indexByte_ge l 59
    refine ⟨fun h => by omega, fun k hk => ?_⟩
    obtain ⟨k, rfl⟩ : ∃ j, k = j + 1 := ⟨k - 1, by omega⟩
    rw [h2 k (by omega)]
    rfl
theorem cut_semi (l : List UInt8) : (∀ i, semi l = some i → (Lib.cut l [59]).1 = i ∧ (Lib.cut l [59]).2.2 = true) ∧ (semi l = none → (Lib.cut l [59]).2.2 = false) := by
 obtain ⟨h1, h2⟩ := semi_index l
 unfold Lib.cut
 rw [Lib.index_one]
 by_cases h : 0 ≤ Lib.indexByte l 59
 ·
  rw [if_pos h]
  obtain ⟨k, hk⟩ := Int.eq_ofNat_of_zero_le h
  rw [h2 k hk, hk]
  exact ⟨fun i hi => (by obtain rfl := Option.some.inj hi; exact ⟨rfl, rfl⟩), fun h => (by cases h)⟩
 ·
  rw [if_neg h, h1 (by omega)]
  exact ⟨fun i hi => (by cases hi), fun _ => rfl⟩
theorem cutAt (s : ByteArray) (w : World) (hG : Glob w) (hs : s.size ≤ 140737488355328) (h13 : s.size ≤ 13) : ∃ (a b : ByteArray) (is : Bool), (∀ i, semi s.data.toList = some i → a.data.toList = i ∧ is = true) ∧ (semi s.data.toList = none → is = false) ∧ a.size ≤ 13 ∧
  Calls Tryz.prog 67 #[.string s, .string ⟨#[59]⟩] w fun e w' => e = .returned (.tuple #[.string a, .string b, .bool is]) ∧ ∃ n, w' = w.drewN n := by
 obtain ⟨m, hm⟩ := hG.maxLen
 obtain ⟨c1, c2⟩ := cut_semi s.data.toList
 refine ⟨⟨(Lib.cut s.data.toList [59]).1.toArray⟩, ⟨(Lib.cut s.data.toList [59]).2.1.toArray⟩, (Lib.cut s.data.toList [59]).2.2, fun i hi => ⟨(c1 i hi).1, (c1 i hi).2⟩, c2, ?_, Tryz.strings_Cut s ⟨#[59]⟩ m w (by omega) hm⟩
 show (Lib.cut s.data.toList [59]).1.toArray.size ≤ 13
 have hl := Lib.size_eq s
 unfold Lib.cut
 split <;> simp <;> omega
theorem builder_add {T e B b : Nat} {p : Value} {out : List UInt8} {s : ByteArray} {l : List UInt8} {W : World} (h : Lib.BuilderAtF T e B b p (Lib.byteCells out ++ Lib.strCells s) W) (hs : s.data.toList = l) : Lib.BuilderAtF T e B b p (Lib.byteCells (out ++ l)) W := by
 rw [Lib.byteCells_append, ← hs]
 exact h
theorem slice_two (s : ByteArray) (lo hi : Int) (a b : Nat) (ha : lo = a) (hb : hi = b) (h1 : a ≤ b) (h2 : b ≤ s.size) (w : World) : (Instr.slice 9 (.string s) (some (.int .i64 lo)) (some (.int .i64 hi)) none).run Tryz.prog w = .ok (.string (s.extract a b)) w := by
 subst ha
 subst hb
 have := run_slice_string (P := Tryz.prog) w 9 s .i64 .i64 (a : Int) (b : Int) Tryz.underlying9 (by omega) (by omega) (by omega)
 simpa using this
theorem ext_end (s : ByteArray) (k : Nat) : (s.extract k s.size).data.toList = s.data.toList.drop k := Lib.extract_to_end s k
set_option maxHeartbeats 2000000 in
set_option maxRecDepth 100000 in
theorem text_Unescape.calls (a0 : ByteArray) (r1 : ByteArray) (r2 r3 : Int) (w : World) (h : text_Unescape.f a0 = some (r1, r2, r3)) (hG : Glob w) :
  Calls Tryz.prog 29 #[.string a0] w fun e w' => e = .returned (.tuple #[.string r1, .int .i64 r2, .int .i64 r3]) ∧ Below w.heap.size w w' := by
 unfold text_Unescape.f at h
 by_cases hm' : a0.size ≤ 140737488355328
 case neg => rw [if_neg (by omega)] at h; cases h
 by_cases hm : a0.size ≤ 140737488351232
 case neg => rw [if_neg hm] at h; cases h
 rw [if_pos hm, un_eq _ _ _ _ (by rw [← Lib.size_eq]; omega)] at h
 simp only [Option.some.injEq, Prod.mk.injEq] at h
 obtain ⟨h1, h2, h3⟩ := h
 subst h1
 subst h2
 subst h3
 obtain ⟨R, hR⟩ : ∃ R, un a0.data.toList 0 [] = R := ⟨_, rfl⟩
 rw [hR]
 have HR := Lib.hid hR
 clear hR hm'
 have hl : a0.data.toList.length = a0.size := (Lib.size_eq a0).symm
 have Hl := Lib.hid hl
 clear hl
 go_enter Tryz.func29, Tryz.ntmps29
 go_wp2_with fail
 go_loopw [6] (fun v6 wr => ∃ (at_ : Nat) (out : List UInt8), v6 = .int .i64 at_ ∧ at_ ≤ a0.size ∧ Hid (out.length ≤ at_) ∧ Hid (un (a0.data.toList.drop at_) at_ out = R) ∧ Hid (Lib.IsBuilderF 65 5 w.heap.size w.heap.size (Lib.byteCells out) wr) ∧ Hid (Below w.heap.size w wr)) (fun v6 _ => a0.size - (intOf v6).toNat)
 case atStart =>
  exact ⟨0, [], rfl, by omega, Nat.le_refl _, HR, Lib.IsBuilderF.of (Lib.fresh_isBuilder 65 5 w), (Below.refl _ _).alloc (Nat.le_refl _) _⟩
 case round =>
  obtain ⟨at_, out, rfl, hat, hout, hun, hbd, hbl⟩ := hrel
  have hx : (a0.extract at_ a0.size).data.toList = a0.data.toList.drop at_ := ext_end a0 at_
  have hix := Tryz.strings_IndexByte (a0.extract at_ a0.size) 38 wr
  rw [hx, show ((38 : Int).toNat.toUInt8) = 38 from rfl] at hix
  obtain ⟨i1, i2⟩ := indexByte_split (a0.data.toList.drop at_) 38
  have hge := Lib.indexByte_ge (a0.data.toList.drop at_) 38
  obtain ⟨i, hi⟩ : ∃ i, Lib.indexByte (a0.data.toList.drop at_) 38 = i := ⟨_, rfl⟩
  rw [hi] at hix i1 i2 hge
  clear hi
  have Hix := Lib.hid hix
  have Hx := Lib.hid hx
  clear hix hx
  have hBw : w.heap.size ≤ wr.heap.size := by have := hbl.size; exact this
  by_cases hi0 : i < 0
  ·
   have I1 := Lib.hid (i1 hi0)
   clear i1 i2
   go_wp2_with fail
   refine (Hix.out).mono ?_
   rintro e w1 ⟨rfl, rfl⟩
   go_wp2_with fail
   have hlen : (Lib.byteCells out).length + (a0.extract at_ a0.size).size ≤ 140737488355328 := by
    have := hout.out
    simp [Lib.byteCells]
    omega
   refine (Tryz.Builder_WriteString_k _ _ _ _ _ hbd hlen hBw).mono ?_
   clear hlen
   rintro e w2 ⟨rfl, hbd2, hb2, -⟩
   have hbd3 : Lib.IsBuilderF 65 5 w.heap.size w.heap.size (Lib.byteCells (out ++ a0.data.toList.drop at_)) w2 := .inr (builder_add hbd2 Hx)
   go_wp2_with fail
   refine (Tryz.Builder_String_any_k _ _ _ _ hbd3 (by have := hb2.size; omega)).mono ?_
   rintro e w3 ⟨rfl, -, hb3, -⟩
   go_wp2_with fail
   refine bodyPost_ret (results_tmp3 rfl _ _ _) rfl ?_
   have hR : (out ++ a0.data.toList.drop at_, at_ + (a0.data.toList.drop at_).length, 0) = R := (un_all _ _ _ I1).symm.trans hun
   rw [← hR]
   refine ⟨?_, hbl.out.trans (hb2.trans hb3)⟩
   have : at_ + (a0.data.toList.drop at_).length = a0.size := by rw [List.length_drop, Hl.out]; omega
   rw [this]
   rfl
  ·
   obtain ⟨k, rfl⟩ := Int.eq_ofNat_of_zero_le (show 0 ≤ i by omega)
   obtain ⟨j1, j2, j3⟩ := i2 k rfl
   clear i1 i2
   have hk : at_ + k < a0.size := by rw [List.length_drop, Hl.out] at j1; omega
   clear j1
   have hxk : (a0.extract at_ (at_ + k)).data.toList = (a0.data.toList.drop at_).take k := by rw [Lib.extract_data]; congr 1; omega
   have Hxk := Lib.hid hxk
   have J2 := Lib.hid j2
   have J3 := Lib.hid j3
   clear hxk j2 j3
   have hsl := slice_two a0 (at_ : Int) ((at_ : Int) + (k : Int)) at_ (at_ + k) rfl (by omega) (by omega) (by omega)
   have hsl2 := slice_two a0 ((at_ : Int) + (k : Int) + 1) (min (a0.size : Int) ((at_ : Int) + (k : Int) + 14)) (at_ + k + 1) (min a0.size (at_ + k + 14)) (by omega) (by omega) (by omega) (by omega)
   have hX : (a0.extract (at_ + k + 1) (min a0.size (at_ + k + 14))).data.toList = (a0.data.toList.drop (at_ + k + 1)).take 13 := by
    rw [Lib.extract_data, List.take_eq_take_iff, List.length_drop, Hl.out]
    omega
   have hXs : (a0.extract (at_ + k + 1) (min a0.size (at_ + k + 14))).size ≤ 13 := by simp; omega
   have HX := Lib.hid hX
   clear hX
   generalize a0.extract (at_ + k + 1) (min a0.size (at_ + k + 14)) = X at *
   go_wp2_with fail
   refine (Hix.out).mono ?_
   rintro e w1 ⟨rfl, rfl⟩
   go_wp2_with fail
   have hlen : (Lib.byteCells out).length + (a0.extract at_ (at_ + k)).size ≤ 140737488355328 := by
    have := hout.out
    simp [Lib.byteCells]
    omega
   refine (Tryz.Builder_WriteString_k _ _ _ _ _ hbd hlen hBw).mono ?_
   clear hlen
   rintro e w2 ⟨rfl, hbd2, hb2, -⟩
   have hbd3 : Lib.IsBuilderF 65 5 w.heap.size w.heap.size (Lib.byteCells (out ++ (a0.data.toList.drop at_).take k)) w2 := .inr (builder_add hbd2 Hxk)
   have hlt : ((a0.data.toList.drop at_).take k).length = k := by rw [List.length_take, List.length_drop, Hl.out]; omega
   have Hlt := Lib.hid hlt
   clear hlt hbd2
   have hun2 : un (38 :: a0.data.toList.drop (at_ + k + 1)) (at_ + k) (out ++ (a0.data.toList.drop at_).take k) = R := by
    have e1 : a0.data.toList.drop at_ = (a0.data.toList.drop at_).take k ++ 38 :: a0.data.toList.drop (at_ + k + 1) := by
     conv => lhs; rw [← List.take_append_drop k (a0.data.toList.drop at_)]
     rw [J3.out, List.drop_drop]
     congr 2
    have e2 := hun.out
    rw [e1, un_skip _ _ _ _ J2.out, Hlt.out] at e2
    exact e2
   have hol : (out ++ (a0.data.toList.drop at_).take k).length ≤ at_ + k := by rw [List.length_append, Hlt.out]; have := hout.out; omega
   have Hun2 := Lib.hid hun2
   have Hol := Lib.hid hol
   clear hun2 hol
   generalize out ++ (a0.data.toList.drop at_).take k = out2 at *
   clear Hlt J2 J3 Hxk Hx Hix hun hout
   have hG2 : Glob w2 := hG.below (hbl.out.trans hb2)
   obtain ⟨a, b, is, q1, q2, q3, hcut⟩ := cutAt X w2 hG2 (by omega) hXs
   rw [HX.out] at q1 q2
   have Q1 := Lib.hid q1
   have Q2 := Lib.hid q2
   have Hcut := Lib.hid hcut
   clear q1 q2 hcut
   cases hs : semi ((a0.data.toList.drop (at_ + k + 1)).take 13) with
   | none =>
    have his := Q2.out hs
    subst his
    have hR : ([], at_ + k, 22) = R := by rw [← Hun2.out, un_bad _ _ _ (by rw [hs]; rfl)]
    have HR2 := Lib.hid hR
    clear hR hs
    go_wp2_with fail
    refine (Hcut.out).mono ?_
    rintro e w3 ⟨rfl, ⟨n3, rfl⟩⟩
    go_wp2_with fail
    refine (reference_any a _ (hG2.below (pw_below_drewN (Below.refl _ _) _)) (by omega)).mono ?_
    rintro e w4 ⟨he, hb4⟩
    obtain ⟨r, bb, rfl, -⟩ := he.form
    go_wp2_with fail
    refine bodyPost_ret (results_tmp3 rfl _ _ _) rfl ?_
    rw [← HR2.out]
    exact ⟨rfl, (hbl.out.trans hb2).trans ((pw_below_drewN (Below.refl _ _) n3).trans (hb4.mono (by simp; have := hb2.size; omega)))⟩
   | some i =>
    obtain ⟨hai, his⟩ := Q1.out i hs
    subst his
    have hal : a.size = i.length := by rw [Lib.size_eq, hai]
    have hil := semi_len _ _ hs
    have hil2 : at_ + k + 1 + i.length < a0.size := by
     rw [List.length_take, List.length_drop, Hl.out] at hil
     omega
    clear hil
    have Hai := Lib.hid hai
    have Hal := Lib.hid hal
    clear hai hal
    have hcr := reference_any a
    rw [Hai.out] at hcr
    cases hr : refV i with
    | none =>
     have hR : ([], at_ + k, 22) = R := by rw [← Hun2.out, un_bad _ _ _ (by rw [hs]; exact hr)]
     have HR2 := Lib.hid hR
     rw [hr] at hcr
     have Hcr := Lib.hid hcr
     clear hR hs hr hcr
     go_wp2_with fail
     refine (Hcut.out).mono ?_
     rintro e w3 ⟨rfl, ⟨n3, rfl⟩⟩
     go_wp2_with fail
     refine (Hcr.out _ (hG2.below (pw_below_drewN (Below.refl _ _) _)) (by omega)).mono ?_
     rintro e w4 ⟨⟨r, rfl⟩, hb4⟩
     go_wp2_with fail
     refine bodyPost_ret (results_tmp3 rfl _ _ _) rfl ?_
     rw [← HR2.out]
     exact ⟨rfl, (hbl.out.trans hb2).trans ((pw_below_drewN (Below.refl _ _) n3).trans (hb4.mono (by simp; have := hb2.size; omega)))⟩
    | some c =>
     have hR : un ((a0.data.toList.drop (at_ + k + 1)).drop (i.length + 1)) (at_ + k + i.length + 2) (out2 ++ Lib.encodeRune (c : Int)) = R := by rw [← Hun2.out, un_ref _ _ _ _ _ hs hr]
     rw [List.drop_drop] at hR
     have HR2 := Lib.hid hR
     have hi2 := refV_len i c hr
     have hcm : (c : Int) ≤ 2147483647 := by
      have := refV_max i c hr
      omega
     rw [hr] at hcr
     have Hcr := Lib.hid hcr
     clear hR hs hr hcr
     obtain ⟨z, hz⟩ : ∃ z : Int, (c : Int) = z := ⟨_, rfl⟩
     have hz0 : 0 ≤ z := by omega
     rw [hz] at hcm
     have Hz := Lib.hid hz
     clear hz
     go_wp2_with fail
     refine (Hcut.out).mono ?_
     rintro e w3 ⟨rfl, ⟨n3, rfl⟩⟩
     go_wp2_with fail
     refine (Hcr.out _ (hG2.below (pw_below_drewN (Below.refl _ _) _)) (by omega)).mono ?_
     rintro e w4 ⟨he, hb4⟩
     obtain rfl : e = .returned (.tuple #[.int .i32 c, .bool true]) := he
     rw [Hz.out]
     have hw24 : Below w2.heap.size w2 w4 := (pw_below_drewN (Below.refl _ _) n3).trans (hb4.mono (by simp))
     have hbd4 := builder_below hbd3 hw24
     have hsz4 : w.heap.size ≤ w4.heap.size := by have := hb2.size; have := hw24.size; omega
     have hlen4 : (Lib.byteCells out2).length + 4 ≤ 140737488355328 := by
      have := Hol.out
      simp [Lib.byteCells]
      omega
     go_wp2_with fail
     refine (Tryz.Builder_WriteRune_k _ _ _ z (by omega) hcm _ hbd4 hlen4 hsz4).mono ?_
     rintro e w5 ⟨rfl, hbd5, hb5, -⟩
     have hbd6 : Lib.IsBuilderF 65 5 w.heap.size w.heap.size (Lib.byteCells (out2 ++ Lib.encodeRune z)) w5 := .inr (by rw [Lib.byteCells_append, Lib.byteCells_encodeRune]; exact hbd5)
     clear hlen4 hbd5
     go_wp2_with fail
     go_roundw
     case rel =>
      refine ⟨at_ + k + i.length + 2, out2 ++ Lib.encodeRune z, ?_, by omega, ?_, ?_, hbd6, ?_⟩
      ·
       rw [Hal.out]; go_num
      ·
       show (out2 ++ Lib.encodeRune z).length ≤ _
       rw [List.length_append]
       have h1 := (Lib.runeCells_le z).2
       rw [Lib.runeCells_length] at h1
       have := Hol.out
       omega
      ·
       show un _ _ _ = R
       rw [← HR2.out, Hz.out]
       congr 2
       omega
      ·
       exact ((hbl.out.trans hb2).trans (hw24.mono (by have := hb2.size; omega))).trans hb5
     case measure => simp [intOf]; omega
end Go.Proofs.YtknfpggiigncpaaGreatDoor.P
end
