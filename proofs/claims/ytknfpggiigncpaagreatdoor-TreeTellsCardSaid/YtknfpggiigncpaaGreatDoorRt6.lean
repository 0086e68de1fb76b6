/- The document's tokens of a text. -/
import Derived.Test.YtknfpggiigncpaaGreatDoorRt4
import Derived.Test.YtknfpggiigncpaaGreatDoorRt8
set_option linter.unusedVariables false
set_option linter.unusedSimpArgs false
namespace Go.Proofs.YtknfpggiigncpaaGreatDoor.C
open Go.RowKit P B YtknfpggiigncpaaGreatDoorW.PrintWords YtknfpggiigncpaaGreatDoorW.PrintLast YtknfpggiigncpaaGreatDoorW.PrintMore
theorem encode_pos (n : Int) : 1 ≤ (Lib.encodeRune n).length := by
 unfold Lib.encodeRune Lib.encodeRuneZ
 rw [List.length_map]
 repeat' split
 all_goals simp
theorem un_grow : ∀ (n : Nat) (l : List UInt8) (pos : Nat) (out : List UInt8), l.length ≤ n → (un l pos out).2.2 = 0 → out.length ≤ (un l pos out).1.length ∧ (l ≠ [] → out.length < (un l pos out).1.length)
 | _, [], pos, out, _, _ => by simp [un_nil]
 | 0, b :: r, _, _, h, _ => by simp at h
 | n + 1, b :: r, pos, out, h, h0 => by
  simp only [List.length_cons] at h
  by_cases hb : b = 38
  ·
   subst hb
   cases hs : semi (r.take 13) with
   | none => rw [un_bad _ _ _ (by rw [hs]; rfl)] at h0; cases h0
   | some i =>
    cases hr : refV i with
    | none => rw [un_bad _ _ _ (by rw [hs]; exact hr)] at h0; cases h0
    | some c =>
     rw [un_ref _ _ _ _ _ hs hr] at h0 ⊢
     have := (un_grow n (r.drop (i.length + 1)) (pos + i.length + 2) (out ++ Lib.encodeRune (c : Int)) (by simp; omega) h0).1
     have he := encode_pos (c : Int)
     rw [List.length_append] at this
     exact ⟨by omega, fun _ => by omega⟩
  ·
   rw [un_plain _ _ _ _ hb] at h0 ⊢
   have := (un_grow n r (pos + 1) (out ++ [b]) (by omega) h0).1
   rw [List.length_append, List.length_singleton] at this
   exact ⟨by omega, fun _ => by omega⟩
theorem cut_find (s : ByteArray) (p : Nat) (hp : p ≤ s.size) : ∃ e : Nat, p ≤ e ∧ e ≤ s.size ∧ (Lib.cut (rs s p) [60]).1 = (s.extract p e).data.toList ∧ (findZ s p [60] = (e : Int) ∨ (findZ s p [60] = -1 ∧ e = s.size)) := by
 unfold findZ Lib.cut
 by_cases h : 0 ≤ Lib.index (rs s p) [60]
 ·
  obtain ⟨k, hk⟩ := Int.eq_ofNat_of_zero_le h
  have hr := Lib.index_room (rs s p) [60] h
  rw [rs_len, hk] at hr
  simp at hr
  refine ⟨p + k, by omega, by omega, ?_, .inl ?_⟩
  ·
   rw [if_pos h, hk, ext_list, show p + k - p = (k : Int).toNat by simp]
   rfl
  ·
   rw [if_pos h, hk]
   omega
 ·
  refine ⟨s.size, hp, Nat.le_refl _, ?_, .inr ⟨by rw [if_neg h], rfl⟩⟩
  rw [if_neg h]
  exact (rs_ext s p).symm
theorem rCheck (s : ByteArray) (hs : s.size ≤ 5000) (w : World) : Calls Tryz.prog 28 #[.string s] w fun e w' => e = .returned (.tuple #[.int .i64 ((ckL s.data.toList).1 : Int), .int .i64 (ckL s.data.toList).2]) ∧ Below w.heap.size w w' :=
 remitterref08_Check.calls 6000 s _ _ w (refCheck s hs 6000 (Nat.le_refl _))
def RTok (w : World) (r : List S44 × Int × Int) (e : Ending) (w' : World) : Prop :=
 ∃ v, e = .returned (.tuple #[v, .int .i64 r.2.1, .int .i64 r.2.2]) ∧ Kd.S k88 88 w' w.heap.size (fun _ => True) v (r.1.map tr44) ∧ Below w.heap.size w w'
theorem RTok.err {w w' : World} {a er : Int} (h : Below w.heap.size w w') : RTok w ([], a, er) (.returned (.tuple #[.slice none 0 0, .int .i64 a, .int .i64 er])) w' := ⟨_, rfl, Kd.S_nil _ _ _ _ _, h⟩
def errR (r : Except (Nat × Int) (List S44)) (n : Nat) : List S44 × Int × Int := match r with | .ok xs => (xs, (n : Int), 0) | .error (a, er) => ([], (a : Int), er)
theorem text_step {s : ByteArray} {p e : Nat} {xs : List S44} {x : List UInt8} (h : (Lib.cut (rs s p) [60]).1 = (s.extract p e).data.toList) (hpe : p < e) (he : e ≤ s.size) (h0 : (un (s.extract p e).data.toList 0 []).2.2 = 0) (hx : (un (s.extract p e).data.toList 0 []).1 = x) :
  textTk s p xs = .ok (e, xs ++ [⟨3, ⟨#[]⟩, ⟨x.toArray⟩, [], false, (p : Int)⟩]) := by
 have hl : (s.extract p e).data.toList.length = e - p := by rw [← Lib.size_eq]; simp; omega
 have hne : (s.extract p e).data.toList ≠ [] := by intro h; rw [h] at hl; simp at hl; omega
 have hg := (un_grow _ _ 0 [] (Nat.le_refl _) h0).2 hne
 rw [hx] at hg
 unfold textTk plainT
 rw [h, if_pos h0, hx]
 simp only
 rw [hl, show p + (e - p) = e by omega]
 unfold putT
 rw [if_neg]
 rintro ⟨_, h2⟩
 have h2 : x = [] := h2
 rw [h2] at hg
 simp at hg
theorem text_err {s : ByteArray} {p e pl : Nat} {er : Int} {xs : List S44} (h : (Lib.cut (rs s p) [60]).1 = (s.extract p e).data.toList) (h0 : (un (s.extract p e).data.toList 0 []).2.2 = er) (hn : er ≠ 0) (hp : (un (s.extract p e).data.toList 0 []).2.1 = pl) :
  textTk s p xs = .error (p + pl, er) := by
 unfold textTk plainT
 rw [h, h0, if_neg hn, hp]
theorem RTok_err {w w' : World} {a a' er : Int} (ha : a' = a) (h : Below w.heap.size w w') : RTok w ([], a, er) (.returned (.tuple #[.slice none 0 0, .int .i64 a', .int .i64 er])) w' := by
 subst ha
 exact ⟨_, rfl, Kd.S_nil _ _ _ _ _, h⟩
theorem rs0 (s : ByteArray) : rs s 0 = s.data.toList := by unfold rs; rw [List.drop_zero]
theorem tkEnd (s : ByteArray) (k p : Nat) (xs : List S44) (h : ¬ p < s.size) : tkT s k p xs = .ok xs := by
 cases k with
 | zero => rfl
 | succ k => simp only [tkT]; rw [if_neg h]
theorem nz_tk1_form4 (s : ByteArray) (p : Nat) (xs : List S44) : ErrNZ (form4T s p xs) := by
 unfold form4T
 cases hu : nameT s p with
 | error z => exact nz_of (nz_name _ _) hu
 | ok y =>
  simp only
  cases ha : attrsT s (s.size + 1 - y.2) y.2 [] with
  | error z => exact nz_of (nz_attrs _ _ _ _) ha
  | ok x =>
   simp only
   cases hm : mustT s (selfN s x.2) [62] with
   | error z => exact nz_of (nz_must _ _ _) hm
   | ok y => exact nz_ok
theorem open_kind {s : ByteArray} {p q : Nat} {t : S44} (h : openT s p = .ok (t, q)) : t.f0 = 1 := by
 unfold openT at h
 repeat' split at h
 all_goals first | cases h; done | (injection h with h; injection h with h1 h2; subst h1; rfl)
theorem head_lt (s : ByteArray) (p : Nat) (h : p < s.size) : rs s p = (s[p]'h) :: rs s (p + 1) := by
 unfold rs
 rw [List.drop_eq_getElem_cons (by rw [← Lib.size_eq]; exact h)]
 rfl
theorem nz_open (s : ByteArray) (p : Nat) (z : Nat × Int) (h : openT s p = .error z) : z.2 ≠ 0 := by
 have := nz_tk1_form4 s p [] z
 rw [form4_open, h] at this
 exact this rfl
set_option maxHeartbeats 16000000 in
set_option maxRecDepth 100000 in
theorem rTokens (s : ByteArray) (w : World) (hs : s.size ≤ 3000) : Calls Tryz.prog 23 #[.string s] w (RTok w (tokR s)) := by
 obtain ⟨R, hR⟩ : ∃ R, tokR s = R := ⟨_, rfl⟩
 rw [hR]
 have hck := fun w => rCheck s (by omega) w
 obtain ⟨ca, hca⟩ : ∃ ca, (ckL s.data.toList).1 = ca := ⟨_, rfl⟩
 obtain ⟨ce, hce⟩ : ∃ ce, (ckL s.data.toList).2 = ce := ⟨_, rfl⟩
 simp only [hca, hce] at hck
 have g0 : decide ((1048576 : Int) < (s.size : Int)) = false := decide_eq_false (by omega)
 unfold tokR at hR
 rw [if_neg (by omega), hca, hce] at hR
 clear hca hce
 by_cases hc : ce = 0
 ·
  subst hc
  rw [if_neg (by simp)] at hR
  have hR : errR (readT s) s.size = R := by rw [← hR]; unfold errR; cases readT s <;> rfl
  unfold readT at hR
  rcases Bool.eq_false_or_eq_true (Lib.hasPrefix s.data.toList [60, 63, 120, 109, 108]) with hx | hx
  ·
   have hA0 := fun w => rAt s ⟨#[60, 63, 120, 109, 108]⟩ 0 true (by rw [rs0]; exact hx) w (by omega) (by omega) (by decide) (by decide)
   have h5 : 5 ≤ s.size := by have := Lib.hasPrefix_le hx; rw [← Lib.size_eq] at this; simpa using this
   have hF := fun w => rFind s ⟨#[63, 62]⟩ 5 _ rfl w (by omega) (by omega) (by decide) (by decide)
   rw [show ((0 : Nat) : Int) = 0 from rfl] at hA0
   rw [show ((5 : Nat) : Int) = 5 from rfl] at hF
   unfold startT at hR
   rw [if_pos hx] at hR
   clear hx
   go_enter Tryz.func23, Tryz.ntmps23
   go_wp2_with fail
   refine (hck _).mono ?_
   rintro e w1 ⟨rfl, hb1⟩
   have HB0 := Aside0.mk hb1
   clear hck hb1
   go_wp2_with fail
   refine (hA0 _).mono ?_
   rintro e0 w3 ⟨rfl, n1, rfl⟩
   go_wp2_with fail
   refine (hF _).mono ?_
   rintro e0 w3 ⟨rfl, n2, rfl⟩
   clear hA0 hF
   rcases until_find s 5 [63, 62] h5 with ⟨hf1, hf2⟩ | ⟨e, hf1, hue, hes, hf2⟩
   ·
    rw [hf1]
    rw [hf2] at hR
    obtain rfl : R = ([], 5, 21) := hR.symm
    go_wp2_with fail
    go_ret3
    exact RTok_err (by rfl) (by repeat (first | exact HB0.out | apply pw_below_drewN))
   ·
    rw [hf1]
    simp only [List.length_cons, List.length_nil] at hes hf2
    have g4 : decide ((e : Int) < 0) = false := decide_eq_false (by omega)
    have hsr : ∀ w : World, (Instr.slice 9 (.string s) (some (.int .i64 5)) (some (.int .i64 (e : Int))) none).run Tryz.prog w = .ok (.string (s.extract 5 e)) w := fun w => slice_two s 5 (e : Int) 5 e rfl rfl hue (by omega) w
    have hD := fun w => rFind (s.extract 5 e) ⟨#[60]⟩ 0 _ rfl w (by omega) (by simp; omega) (by decide) (by decide)
    rw [show ((0 : Nat) : Int) = 0 from rfl] at hD
    rw [hf2] at hR
    simp only at hR
    clear hf1 hf2
    go_wp2_with fail
    refine (hD _).mono ?_
    rintro e0 w3 ⟨rfl, n3, rfl⟩
    clear hD
    cases hcd : Lib.contains (s.extract 5 e).data.toList [60] with
    | true =>
     have g5 : decide ((0 : Int) ≤ findZ (s.extract 5 e) 0 [60]) = true := by rw [← find_contains]; exact hcd
     rw [if_pos hcd] at hR
     obtain rfl : R = ([], 0, 21) := hR.symm
     go_wp2_with fail
     go_ret3
     exact RTok_err (by rfl) (by repeat (first | exact HB0.out | apply pw_below_drewN))
    | false =>
     have g5 : decide ((0 : Int) ≤ findZ (s.extract 5 e) 0 [60]) = false := by rw [← find_contains]; exact hcd
     rw [if_neg (by rw [hcd]; simp)] at hR
     simp only at hR
     clear hcd
     obtain ⟨RT, hRT⟩ : ∃ RT, tkT s (s.size + 1) (e + 2) [] = RT := ⟨_, rfl⟩
     rw [hRT] at hR
     have HRT := Lib.hid hRT
     have HRR := Lib.hid hR
     clear hRT hR
     go_wp2_with fail
     go_loopg [7, 8] (s.size + 1) (fun kq v7 v8 wr => ∃ (p : Nat) (xs : List S44), v8 = .int .i64 p ∧ Aside0 (p ≤ s.size) ∧ Aside0 (s.size < p + kq) ∧ Aside0 (xs.length ≤ p) ∧ Aside0 (tkT s kq p xs = RT) ∧ Aside0 (Kd.S k88 88 wr w.heap.size (fun _ => True) v7 (xs.map tr44)) ∧ Aside0 (Below w.heap.size w wr))
     case atStart => exact ⟨(e + 2), [], by go_num, ⟨by omega⟩, ⟨by omega⟩, ⟨Nat.zero_le _⟩, ⟨HRT.out⟩, ⟨Kd.S_nil _ _ _ _ _⟩, ⟨by repeat (first | exact HB0.out | apply pw_below_drewN)⟩⟩
     case round =>
      obtain ⟨p, xs, rfl, HP, HF, HL, HT, HS, HB⟩ := hrel
      by_cases hps : p < s.size
      ·
       cases gk with
       | zero => exact absurd HF.out (by omega)
       | succ kk =>
        have hT := HT.out
        simp only [tkT] at hT
        rw [if_pos hps] at hT
        have hErr : ∀ (a : Nat) (er : Int), tk1T s p xs = .error (a, er) → R = ([], (a : Int), er) := by
         intro a er h
         rw [h] at hT
         rw [← HRR.out, ← hT]
         rfl
        have hOk : ∀ q ys, tk1T s p xs = .ok (q, ys) → tkT s kk q ys = RT := by
         intro q ys h
         rw [h] at hT
         exact hT
        clear hT HT
        have hxl : xs.length ≤ 3000 := by have := HL.out; omega
        have g1 : decide ((p : Int) < (s.size : Int)) = true := decide_eq_true (by omega)
        go_wp2_with fail
        cases c1 : Lib.hasPrefix (rs s p) [60, 33, 45, 45] with
        | true =>
         have hA1 := fun w => rAt s ⟨#[60, 33, 45, 45]⟩ p true c1 w (by omega) (by omega) (by decide) (by decide)
         refine (hA1 _).mono ?_
         rintro e0 w3 ⟨rfl, n3, rfl⟩
         clear hA1
         go_wp2_with fail
         have hI : formI (rs s p) = some 0 := by unfold formI; rw [if_pos c1]
         have hTk : tk1T s p xs = form1R s (p + 4) xs := by unfold tk1T; rw [hI]; rfl
         have hp4 : p + 4 ≤ s.size := by have := Lib.hasPrefix_le c1; rw [rs_len] at this; simp at this; omega
         have hF := fun w => rFind s ⟨#[45, 45, 62]⟩ (p + 4) _ rfl w (by omega) (by omega) (by decide) (by decide)
         rw [show ((p + 4 : Nat) : Int) = (p : Int) + 4 by omega] at hF
         clear hI c1
         refine (hF _).mono ?_
         rintro e0 w3 ⟨rfl, n4, rfl⟩
         clear hF
         rcases until_find s (p + 4) [45, 45, 62] hp4 with ⟨hf1, hf2⟩ | ⟨e, hf1, hue, hes, hf2⟩
         ·
          rw [hf1]
          obtain rfl := hErr _ _ (by rw [hTk]; unfold form1R form1T; rw [hf2]; rfl)
          clear hErr
          go_wp2_with fail
          go_ret3
          exact RTok_err (by first | rfl | omega | (simp; omega)) (by repeat (first | exact HB.out | apply pw_below_drewN))
         ·
          rw [hf1]
          simp only [List.length_cons, List.length_nil] at hes hf2
          have g4 : decide ((e : Int) < 0) = false := decide_eq_false (by omega)
          have hsr : ∀ w : World, (Instr.slice 9 (.string s) (some (.int .i64 ((p : Int) + 4))) (some (.int .i64 (e : Int))) none).run Tryz.prog w = .ok (.string (s.extract (p + 4) e)) w := fun w => slice_two s ((p : Int) + 4) (e : Int) (p + 4) e (by omega) rfl hue (by omega) w
          have hD := fun w => rFind (s.extract (p + 4) e) ⟨#[45, 45]⟩ 0 _ rfl w (by omega) (by simp; omega) (by decide) (by decide)
          rw [show ((0 : Nat) : Int) = 0 from rfl] at hD
          clear hf1
          go_wp2_with fail
          refine (hD _).mono ?_
          rintro e0 w3 ⟨rfl, n5, rfl⟩
          clear hD
          cases hcd : Lib.contains (s.extract (p + 4) e).data.toList [45, 45] with
          | true =>
           have g5 : decide ((0 : Int) ≤ findZ (s.extract (p + 4) e) 0 [45, 45]) = true := by rw [← find_contains]; exact hcd
           obtain rfl := hErr _ _ (by rw [hTk]; unfold form1R form1T; rw [hf2]; simp only; rw [if_pos hcd, Nat.add_sub_cancel]; rfl)
           clear hErr
           go_wp2_with fail
           go_ret3
           exact RTok_err (by first | rfl | omega | (simp; omega)) (by repeat (first | exact HB.out | apply pw_below_drewN))
          | false =>
           have g5 : decide ((0 : Int) ≤ findZ (s.extract (p + 4) e) 0 [45, 45]) = false := by rw [← find_contains]; exact hcd
           have HOK := Lib.hid (hOk (e + 3) xs (by rw [hTk]; unfold form1R form1T; rw [hf2]; simp only; rw [if_neg (by rw [hcd]; simp)]; rfl))
           clear hErr hOk hf2 hcd hTk
           go_wp2_with fail
           go_roundg kk
           case measure => omega
           case rel => exact ⟨e + 3, xs, by go_num, ⟨by omega⟩, ⟨by have := HF.out; omega⟩, ⟨by have := HL.out; simp; omega⟩, ⟨HOK.out⟩, ⟨by repeat (first | exact HS.out | apply Kd.S_drewN)⟩, ⟨by repeat (first | exact HB.out | apply pw_below_drewN)⟩⟩
        | false =>
         have hA1 := fun w => rAt s ⟨#[60, 33, 45, 45]⟩ p false c1 w (by omega) (by omega) (by decide) (by decide)
         refine (hA1 _).mono ?_
         rintro e0 w3 ⟨rfl, n3, rfl⟩
         clear hA1
         go_wp2_with fail
         cases c2 : Lib.hasPrefix (rs s p) [60, 33, 91, 67, 68, 65, 84, 65, 91] with
         | true =>
          have hA2 := fun w => rAt s ⟨#[60, 33, 91, 67, 68, 65, 84, 65, 91]⟩ p true c2 w (by omega) (by omega) (by decide) (by decide)
          refine (hA2 _).mono ?_
          rintro e0 w3 ⟨rfl, n4, rfl⟩
          clear hA2
          go_wp2_with fail
          have hI : formI (rs s p) = some 1 := by unfold formI; rw [if_neg (by rw [c1]; simp), if_pos c2]
          have hTk : tk1T s p xs = form2T s (p + 9) xs := by unfold tk1T; rw [hI]; rfl
          have hp9 : p + 9 ≤ s.size := by have := Lib.hasPrefix_le c2; rw [rs_len] at this; simp at this; omega
          have hF := fun w => rFind s ⟨#[93, 93, 62]⟩ (p + 9) _ rfl w (by omega) (by omega) (by decide) (by decide)
          rw [show ((p + 9 : Nat) : Int) = (p : Int) + 9 by omega] at hF
          clear hI c1 c2
          refine (hF _).mono ?_
          rintro e0 w3 ⟨rfl, n5, rfl⟩
          clear hF
          rcases until_find s (p + 9) [93, 93, 62] hp9 with ⟨hf1, hf2⟩ | ⟨e, hf1, hue, hes, hf2⟩
          ·
           rw [hf1]
           obtain rfl := hErr _ _ (by rw [hTk]; unfold form2T; rw [hf2])
           clear hErr
           go_wp2_with fail
           go_ret3
           exact RTok_err (by first | rfl | omega | (simp; omega)) (by repeat (first | exact HB.out | apply pw_below_drewN))
          ·
           rw [hf1]
           simp only [List.length_cons, List.length_nil] at hes hf2
           have g4 : decide ((e : Int) < 0) = false := decide_eq_false (by omega)
           have hsr : ∀ w : World, (Instr.slice 9 (.string s) (some (.int .i64 ((p : Int) + 9))) (some (.int .i64 (e : Int))) none).run Tryz.prog w = .ok (.string (s.extract (p + 9) e)) w := fun w => slice_two s ((p : Int) + 9) (e : Int) (p + 9) e (by omega) rfl hue (by omega) w
           clear hf1
           have hlen : (s.extract (p + 9) e).data.toList.length = e - (p + 9) := by rw [← Lib.size_eq]; simp; omega
           by_cases hem : p + 9 < e
           ·
            have g5 : decide ((p : Int) + 9 < (e : Int)) = true := decide_eq_true (by omega)
            have HOK := Lib.hid (hOk (e + 3) (xs ++ [⟨3, ⟨#[]⟩, s.extract (p + 9) e, [], false, (p : Int)⟩]) (by
             rw [hTk]
             unfold form2T
             rw [hf2]
             simp only
             unfold putT
             rw [if_neg (by rintro ⟨_, h⟩; have h : (s.extract (p + 9) e).data.toList = [] := h; rw [h] at hlen; simp at hlen; omega), Nat.add_sub_cancel]))
            clear hErr hOk hf2 hTk hlen
            go_wp2_with (at_builtin; refine Kd.S_append k88 (w0 := w) (W := _) w.heap.size rfl (.tmp 117) (.tmp 125) 37 88 _ 80 rfl Tryz.underlying37 info88 rfl (by decide) (by decide) u7 (xs.map tr44) (⟨3, ⟨#[]⟩, s.extract (p + 9) e, [], false, (p : Int)⟩ : S88) [.int .u8 3, .string ⟨#[]⟩, .string (s.extract (p + 9) e), .slice none 0 0, .bool false, .int .i64 (p : Int)] (fun _ => True) (fun _ => False) (by simp [Act.eval, Act.put]) (by simp [Act.eval, Act.put]) (k88_mkM _ _ _ (⟨3, ⟨#[]⟩, s.extract (p + 9) e, [], false, (p : Int)⟩ : S88) (Kd.R_nil _ _ _ _ _)) (fun _ h => h.elim) (fun _ _ => trivial) (Kd.S_mono (by repeat (first | exact HS.out | apply Kd.S_drewN)) (fun _ h => ⟨h, id⟩)) (by repeat (first | exact HB.out | apply pw_below_drewN)) (by have := HB.out.size; simp; omega) (by simp; omega) ?_)
            intro v5 w5 hS5 hB5 hg5 hat5
            have HS5 := Lib.hid hS5
            have HB5 := Lib.hid hB5
            clear hS5 hB5 hg5 hat5
            go_wp2_with fail
            go_roundg kk
            case measure => omega
            case rel => exact ⟨e + 3, xs ++ [⟨3, ⟨#[]⟩, s.extract (p + 9) e, [], false, (p : Int)⟩], by go_num, ⟨by omega⟩, ⟨by have := HF.out; omega⟩, ⟨by have := HL.out; simp; omega⟩, ⟨HOK.out⟩, ⟨by rw [List.map_append]; exact HS5.out⟩, ⟨HB5.out⟩⟩
           ·
            have g5 : decide ((p : Int) + 9 < (e : Int)) = false := decide_eq_false (by omega)
            have HOK := Lib.hid (hOk (e + 3) xs (by
             rw [hTk]
             unfold form2T
             rw [hf2]
             simp only
             unfold putT
             rw [if_pos ⟨rfl, List.length_eq_zero_iff.1 (show (s.extract (p + 9) e).data.toList.length = 0 by omega)⟩]))
            clear hErr hOk hf2 hTk hlen
            go_wp2_with fail
            go_roundg kk
            case measure => omega
            case rel => exact ⟨e + 3, xs, by go_num, ⟨by omega⟩, ⟨by have := HF.out; omega⟩, ⟨by have := HL.out; simp; omega⟩, ⟨HOK.out⟩, ⟨by repeat (first | exact HS.out | apply Kd.S_drewN)⟩, ⟨by repeat (first | exact HB.out | apply pw_below_drewN)⟩⟩
         | false =>
          have hA2 := fun w => rAt s ⟨#[60, 33, 91, 67, 68, 65, 84, 65, 91]⟩ p false c2 w (by omega) (by omega) (by decide) (by decide)
          refine (hA2 _).mono ?_
          rintro e0 w3 ⟨rfl, n4, rfl⟩
          clear hA2
          go_wp2_with fail
          cases c3 : Lib.hasPrefix (rs s p) [60, 47] with
          | true =>
           have hA3 := fun w => rAt s ⟨#[60, 47]⟩ p true c3 w (by omega) (by omega) (by decide) (by decide)
           refine (hA3 _).mono ?_
           rintro e0 w3 ⟨rfl, n5, rfl⟩
           clear hA3
           go_wp2_with fail
           have hI : formI (rs s p) = some 2 := by unfold formI; rw [if_neg (by rw [c1]; simp), if_neg (by rw [c2]; simp), if_pos c3]
           have hTk : tk1T s p xs = form3T s (p + 2) xs := by unfold tk1T; rw [hI]; rfl
           have hp2 : p + 2 ≤ s.size := by have := Lib.hasPrefix_le c3; rw [rs_len] at this; simp at this; omega
           have hN := fun w => rName s (p + 2) w (by omega) (by omega)
           rw [show ((p + 2 : Nat) : Int) = (p : Int) + 2 by omega] at hN
           clear hI c1 c2 c3
           refine (hN _).mono ?_
           rintro e0 w3 ⟨rfl, n6, rfl⟩
           clear hN
           rcases name_cases s (p + 2) hp2 with ⟨hn1, hn2⟩ | ⟨hn1, hn2, hn3⟩
           ·
            rw [hn2]
            have g4 : (((p + 2 : Nat) : Int) == (p : Int) + 2) = true := beq_iff_eq.2 (by omega)
            obtain rfl := hErr _ _ (by rw [hTk]; unfold form3T; rw [hn1])
            clear hErr
            go_wp2_with fail
            go_ret3
            exact RTok_err (by first | rfl | omega | (simp; omega)) (by repeat (first | exact HB.out | apply pw_below_drewN))
           ·
            obtain ⟨m, hm⟩ : ∃ m, nmEnd s (p + 2) = m := ⟨_, rfl⟩
            rw [hm] at hn1 hn2 hn3 ⊢
            clear hm
            have g4 : ((m : Int) == (p : Int) + 2) = false := beq_eq_false_iff_ne.2 (by omega)
            have hK := fun w => rSkip s m w (by omega) (by omega)
            have hbl := blankN_le (rs s m)
            rw [rs_len] at hbl
            obtain ⟨v, hv⟩ : ∃ v, m + blankN (rs s m) = v := ⟨_, rfl⟩
            rw [hv] at hK
            have hv1 : m ≤ v ∧ v ≤ s.size := by omega
            go_wp2_with fail
            refine (hK _).mono ?_
            rintro e0 w3 ⟨rfl, n7, rfl⟩
            clear hK
            go_wp2_with fail
            cases hgt : Lib.hasPrefix (rs s v) [62] with
            | false =>
             have hA4 := fun w => rAt s ⟨#[62]⟩ v false hgt w (by omega) (by omega) (by decide) (by decide)
             refine (hA4 _).mono ?_
             rintro e0 w3 ⟨rfl, n8, rfl⟩
             clear hA4
             obtain rfl := hErr _ _ (by rw [hTk]; unfold form3T; rw [hn3]; simp only; rw [hv]; unfold mustT; rw [if_neg (by rw [hgt]; simp)])
             clear hErr
             go_wp2_with fail
             go_ret3
             exact RTok_err (by first | rfl | omega | (simp; omega)) (by repeat (first | exact HB.out | apply pw_below_drewN))
            | true =>
             have hA4 := fun w => rAt s ⟨#[62]⟩ v true hgt w (by omega) (by omega) (by decide) (by decide)
             have hv3 : v + 1 ≤ s.size := by have := Lib.hasPrefix_le hgt; rw [rs_len] at this; simp at this; omega
             have hsr : ∀ w : World, (Instr.slice 9 (.string s) (some (.int .i64 ((p : Int) + 2))) (some (.int .i64 (m : Int))) none).run Tryz.prog w = .ok (.string (s.extract (p + 2) m)) w := fun w => slice_two s ((p : Int) + 2) (m : Int) (p + 2) m (by omega) rfl (by omega) (by omega) w
             have HOK := Lib.hid (hOk (v + 1) (xs ++ [⟨2, s.extract (p + 2) m, ⟨#[]⟩, [], false, (p : Int)⟩]) (by
              rw [hTk]
              unfold form3T
              rw [hn3]
              simp only
              rw [hv]
              unfold mustT
              rw [if_pos hgt]
              simp only
              unfold putT
              rw [if_neg (by rintro ⟨h, _⟩; have h : (2 : Int) = 3 := h; omega), Nat.add_sub_cancel]
              rfl))
             clear hErr hOk hn3 hTk hv hgt
             refine (hA4 _).mono ?_
             rintro e0 w3 ⟨rfl, n8, rfl⟩
             go_wp2_with (at_builtin; refine Kd.S_append k88 (w0 := w) (W := _) w.heap.size rfl (.tmp 150) (.tmp 158) 37 88 _ 80 rfl Tryz.underlying37 info88 rfl (by decide) (by decide) u7 (xs.map tr44) (⟨2, s.extract (p + 2) m, ⟨#[]⟩, [], false, (p : Int)⟩ : S88) [.int .u8 2, .string (s.extract (p + 2) m), .string ⟨#[]⟩, .slice none 0 0, .bool false, .int .i64 (p : Int)] (fun _ => True) (fun _ => False) (by simp [Act.eval, Act.put]) (by simp [Act.eval, Act.put]) (k88_mkM _ _ _ (⟨2, s.extract (p + 2) m, ⟨#[]⟩, [], false, (p : Int)⟩ : S88) (Kd.R_nil _ _ _ _ _)) (fun _ h => h.elim) (fun _ _ => trivial) (Kd.S_mono (by repeat (first | exact HS.out | apply Kd.S_drewN)) (fun _ h => ⟨h, id⟩)) (by repeat (first | exact HB.out | apply pw_below_drewN)) (by have := HB.out.size; simp; omega) (by simp; omega) ?_)
             intro v5 w5 hS5 hB5 hg5 hat5
             have HS5 := Lib.hid hS5
             have HB5 := Lib.hid hB5
             clear hS5 hB5 hg5 hat5
             go_wp2_with fail
             go_roundg kk
             case measure => omega
             case rel => exact ⟨v + 1, xs ++ [⟨2, s.extract (p + 2) m, ⟨#[]⟩, [], false, (p : Int)⟩], by go_num, ⟨by omega⟩, ⟨by have := HF.out; omega⟩, ⟨by have := HL.out; simp; omega⟩, ⟨HOK.out⟩, ⟨by rw [List.map_append]; exact HS5.out⟩, ⟨HB5.out⟩⟩
          | false =>
           have hA3 := fun w => rAt s ⟨#[60, 47]⟩ p false c3 w (by omega) (by omega) (by decide) (by decide)
           refine (hA3 _).mono ?_
           rintro e0 w3 ⟨rfl, n5, rfl⟩
           clear hA3
           have h60e : Lib.hasPrefix (rs s p) [60] = (s[p]'hps == 60) := by
            have := head_lt s p hps
            rw [this]
            simp [Lib.hasPrefix, List.isPrefixOf]
            exact Bool.beq_comm
           by_cases h60 : s[p]'hps = 60
           ·
            have c4 : Lib.hasPrefix (rs s p) [60] = true := by rw [h60e, h60]; rfl
            clear h60e
            have hI : formI (rs s p) = some 3 := by unfold formI; rw [if_neg (by rw [c1]; simp), if_neg (by rw [c2]; simp), if_neg (by rw [c3]; simp), if_pos c4]
            have hTk : tk1T s p xs = form4T s (p + 1) xs := by unfold tk1T; rw [hI]; rfl
            rw [form4_open] at hTk
            have g3 : ((((s[p]'hps).toNat : Nat) : Int) == 60) = true := by rw [h60]; rfl
            have hO := fun w => rOpen s p w hps hs
            clear hI c1 c2 c3 c4 h60
            go_wp2_with fail
            refine (hO _).mono ?_
            rintro e0 w4 hr
            clear hO
            cases hop : openT s (p + 1) with
            | error z =>
             obtain ⟨a, er⟩ := z
             rw [hop] at hr hTk
             obtain ⟨rfl, hb4⟩ := hr
             have hne : er ≠ 0 := nz_open s (p + 1) _ hop
             have hne1 : (er == 0) = false := beq_eq_false_iff_ne.2 hne
             have HBn : Aside0 (Below w.heap.size w w4) := ⟨(by repeat (first | exact HB.out | apply pw_below_drewN) : Below w.heap.size w _).trans (hb4.mono (by have := HB.out.size; simp; omega))⟩
             clear hb4
             obtain rfl := hErr _ _ (hTk)
             clear hErr
             go_wp2_with fail
             go_ret3
             exact RTok_err (by first | rfl | omega | (simp; omega)) (below_alloc HBn.out _)
            | ok z =>
             obtain ⟨t, q⟩ := z
             rw [hop] at hr hTk
             have hk1 := open_kind hop
             have hq := tk1_le hps (hTk.trans rfl)
             obtain ⟨v, rfl, hR4, hb4⟩ := hr
             have hsz4 : wr.heap.size ≤ w4.heap.size := by have := hb4.size; simp at this; exact this
             have HBn : Aside0 (Below w.heap.size w w4) := ⟨(by repeat (first | exact HB.out | apply pw_below_drewN) : Below w.heap.size w _).trans (hb4.mono (by have := HB.out.size; simp; omega))⟩
             have HSn : Aside0 (Kd.S k88 88 w4 w.heap.size (fun k => k < wr.heap.size) u7 (xs.map tr44)) := ⟨Kd.S_below (by repeat (first | exact (Kd.S_mono (Kd.S_bound HS.out) (fun k h => h.2.2.1)) | apply Kd.S_drewN)) hb4⟩
             have hne : ∀ k, u7.ownBlock = some k → k < wr.heap.size := by
              obtain ⟨f, hf⟩ := HSn.out
              exact hf.1
             have HNE := Lib.hid hne
             have HR4 : Aside0 (k92.R 92 w4 w.heap.size (fun k => wr.heap.size ≤ k) v (t.f3.map tr77)) := ⟨Kd.R_lower (Kd.R_mono (Kd.R_bound hR4) (fun k h => by have := h.2.1; simpa using this)) (by have := HB.out.size; simp; omega)⟩
             obtain ⟨A4, c4, rfl⟩ := Kd.R_slice HR4.out
             rw [List.length_map] at HR4
             have HOK := Lib.hid (hOk q (xs ++ [t]) (hTk.trans (by simp only; unfold putT; rw [if_neg (by rintro ⟨h, _⟩; rw [hk1] at h; have h : (1 : Int) = 3 := h; omega)])))
             clear hErr hOk hTk hop hk1 hne hR4 hb4
             go_wp2_with (at_builtin; refine Kd.S_append k88 (w0 := w) (W := _) w.heap.size rfl (.tmp 178) (.tmp 180) 37 88 _ 80 rfl Tryz.underlying37 info88 rfl (by decide) (by decide) u7 (xs.map tr44) (tr44 t) [.int .u8 t.f0, .string t.f1, .string t.f2, .slice A4 t.f3.length c4, .bool t.f4, .int .i64 t.f5] (fun _ => True) (fun k => wr.heap.size ≤ k) (by simp [Act.eval, Act.put]) (by simp [Act.eval, Act.put]) (k88_mkM _ _ _ (tr44 t) (Kd.R_below HR4.out (by repeat (first | exact Below.refl _ _ | apply below_drew | apply pw_below_drewN | apply below_alloc)))) (fun k hk => ⟨trivial, fun e => by have := HNE.out k e.symm; omega⟩) (fun _ _ => trivial) (Kd.S_mono (Kd.S_below HSn.out (by repeat (first | exact Below.refl _ _ | apply below_drew | apply pw_below_drewN | apply below_alloc))) (fun k h => ⟨trivial, by omega⟩)) (by repeat (first | exact HBn.out | apply below_drew | apply pw_below_drewN | apply below_alloc)) (by have := HBn.out.size; simp; omega) (by simp; omega) ?_)
             intro v5 w5 hS5 hB5 hg5 hat5
             have HS5 := Lib.hid hS5
             have HB5 := Lib.hid hB5
             clear hS5 hB5 hg5 hat5
             go_wp2_with fail
             go_roundg kk
             case measure => omega
             case rel => exact ⟨q, xs ++ [t], by go_num, ⟨by omega⟩, ⟨by have := HF.out; omega⟩, ⟨by have := HL.out; simp; omega⟩, ⟨HOK.out⟩, ⟨by rw [List.map_append]; exact HS5.out⟩, ⟨HB5.out⟩⟩
           ·
            have c4 : Lib.hasPrefix (rs s p) [60] = false := by rw [h60e]; exact beq_eq_false_iff_ne.2 h60
            clear h60e
            have hI : formI (rs s p) = none := by unfold formI; rw [if_neg (by rw [c1]; simp), if_neg (by rw [c2]; simp), if_neg (by rw [c3]; simp), if_neg (by rw [c4]; simp)]
            have hTk : tk1T s p xs = textTk s p xs := by unfold tk1T; rw [hI]
            have g3 : ((((s[p]'hps).toNat : Nat) : Int) == 60) = false := beq_eq_false_iff_ne.2 (by intro h; apply h60; exact UInt8.toNat_inj.1 (show (s[p]'hps).toNat = 60 by have h : (((s[p]'hps).toNat : Nat) : Int) = 60 := h; omega))
            have hF := fun w => rFind s ⟨#[60]⟩ p _ rfl w (by omega) (by omega) (by decide) (by decide)
            have hcp : 1 ≤ (Lib.cut (rs s p) [60]).1.length := by
             cases hl : rs s p with
             | nil => have := congrArg List.length hl; rw [rs_len] at this; simp at this; omega
             | cons b l => exact cut_pos b l (by rw [← hl]; exact c4)
            obtain ⟨e, hpe, hes, hce1, hce2⟩ := cut_find s p (by omega)
            rw [hce1, ← Lib.size_eq] at hcp
            simp at hcp
            clear hI c1 c2 c3 c4 h60
            go_wp2_with fail
            refine (hF _).mono ?_
            rintro e0 w3 ⟨rfl, n7, rfl⟩
            clear hF
            have hsr : ∀ w : World, (Instr.slice 9 (.string s) (some (.int .i64 (p : Int))) (some (.int .i64 (e : Int))) none).run Tryz.prog w = .ok (.string (s.extract p e)) w := fun w => slice_two s (p : Int) (e : Int) p e rfl rfl hpe (by omega) w
            have hun := fun w => rUnesc (s.extract p e) (by simp; omega) w
            obtain ⟨xo, hxo⟩ : ∃ xo, (un (s.extract p e).data.toList 0 []).1 = xo := ⟨_, rfl⟩
            obtain ⟨pl, hpl⟩ : ∃ pl, (un (s.extract p e).data.toList 0 []).2.1 = pl := ⟨_, rfl⟩
            obtain ⟨er, her⟩ : ∃ er, (un (s.extract p e).data.toList 0 []).2.2 = er := ⟨_, rfl⟩
            have hplb : pl ≤ (s.extract p e).data.toList.length := by have := un_place _ (s.extract p e).data.toList 0 [] (Nat.le_refl _); rw [hpl] at this; omega
            rw [← Lib.size_eq] at hplb
            simp at hplb
            simp only [hxo, hpl, her] at hun
            rcases hce2 with hz | ⟨hz, rfl⟩
            case' inl =>
             have g4 : decide ((e : Int) < 0) = false := decide_eq_false (by omega)
             rw [hz]
            all_goals
             try rw [hz]
             clear hz
             go_wp2_with fail
             refine (hun _).mono ?_
             rintro e0 w4 ⟨rfl, hb4⟩
             clear hun
             have hsz4 : wr.heap.size ≤ w4.heap.size := by have := hb4.size; simp at this; exact this
             have HBn : Aside0 (Below w.heap.size w w4) := ⟨(by repeat (first | exact HB.out | apply pw_below_drewN) : Below w.heap.size w _).trans (hb4.mono (by have := HB.out.size; simp; omega))⟩
             have HSn : Aside0 (Kd.S k88 88 w4 w.heap.size (fun _ => True) u7 (xs.map tr44)) := ⟨Kd.S_below (by repeat (first | exact HS.out | apply Kd.S_drewN)) hb4⟩
             clear hb4
             by_cases h0 : er = 0
             ·
              subst h0
              have HOK := Lib.hid (hOk _ _ (hTk.trans (text_step hce1 (by omega) hes her hxo)))
              clear hErr hOk hTk hce1 her hxo hpl
              go_wp2_with (at_builtin; refine Kd.S_append k88 (w0 := w) (W := _) w.heap.size rfl (.tmp 72) (.tmp 76) 37 88 _ 80 rfl Tryz.underlying37 info88 rfl (by decide) (by decide) u7 (xs.map tr44) (⟨3, ⟨#[]⟩, ⟨xo.toArray⟩, [], false, (p : Int)⟩ : S88) [.int .u8 3, .string ⟨#[]⟩, .string ⟨xo.toArray⟩, .slice none 0 0, .bool false, .int .i64 (p : Int)] (fun _ => True) (fun _ => False) (by simp [Act.eval, Act.put]) (by simp [Act.eval, Act.put]) (k88_mkM _ _ _ (⟨3, ⟨#[]⟩, ⟨xo.toArray⟩, [], false, (p : Int)⟩ : S88) (Kd.R_nil _ _ _ _ _)) (fun _ h => h.elim) (fun _ _ => trivial) (Kd.S_mono HSn.out (fun _ h => ⟨h, id⟩)) HBn.out HBn.out.size (by simp; omega) ?_)
              intro v5 w5 hS5 hB5 hg5 hat5
              have HS5 := Lib.hid hS5
              have HB5 := Lib.hid hB5
              clear hS5 hB5 hg5 hat5
              go_wp2_with fail
              go_roundg kk
              case measure => omega
              case rel => exact ⟨_, xs ++ [⟨3, ⟨#[]⟩, ⟨xo.toArray⟩, [], false, (p : Int)⟩], by go_num, ⟨by omega⟩, ⟨by have := HF.out; omega⟩, ⟨by have := HL.out; simp; omega⟩, ⟨HOK.out⟩, ⟨by rw [List.map_append]; exact HS5.out⟩, ⟨HB5.out⟩⟩
             ·
              have hne1 : (er == 0) = false := beq_eq_false_iff_ne.2 h0
              obtain rfl := hErr _ _ (hTk.trans (text_err hce1 her h0 hpl))
              clear hErr
              go_wp2_with fail
              go_ret3
              exact RTok_err (by first | rfl | omega | (simp; omega)) (HBn.out)
      ·
       have hRT : RT = .ok xs := by rw [← HT.out]; exact tkEnd s gk p xs hps
       have hRR : R = (xs, (s.size : Int), 0) := by rw [← HRR.out, hRT]; rfl
       subst hRR
       have g1 : decide ((p : Int) < (s.size : Int)) = false := decide_eq_false (by omega)
       go_wp2_with fail
       go_ret3
       exact ⟨_, rfl, (by repeat (first | exact HS.out | apply Kd.S_drewN)), (by repeat (first | exact HB.out | apply pw_below_drewN))⟩
  ·
   have hA0 := fun w => rAt s ⟨#[60, 63, 120, 109, 108]⟩ 0 false (by rw [rs0]; exact hx) w (by omega) (by omega) (by decide) (by decide)
   rw [show ((0 : Nat) : Int) = 0 from rfl] at hA0
   unfold startT at hR
   rw [if_neg (by rw [hx]; simp)] at hR
   simp only at hR
   clear hx
   obtain ⟨RT, hRT⟩ : ∃ RT, tkT s (s.size + 1) 0 [] = RT := ⟨_, rfl⟩
   rw [hRT] at hR
   have HRT := Lib.hid hRT
   have HRR := Lib.hid hR
   clear hRT hR
   go_enter Tryz.func23, Tryz.ntmps23
   go_wp2_with fail
   refine (hck _).mono ?_
   rintro e w1 ⟨rfl, hb1⟩
   have HB0 := Aside0.mk hb1
   clear hck hb1
   go_wp2_with fail
   refine (hA0 _).mono ?_
   rintro e0 w3 ⟨rfl, n1, rfl⟩
   clear hA0
   go_wp2_with fail
   go_loopg [7, 8] (s.size + 1) (fun kq v7 v8 wr => ∃ (p : Nat) (xs : List S44), v8 = .int .i64 p ∧ Aside0 (p ≤ s.size) ∧ Aside0 (s.size < p + kq) ∧ Aside0 (xs.length ≤ p) ∧ Aside0 (tkT s kq p xs = RT) ∧ Aside0 (Kd.S k88 88 wr w.heap.size (fun _ => True) v7 (xs.map tr44)) ∧ Aside0 (Below w.heap.size w wr))
   case atStart => exact ⟨0, [], by go_num, ⟨by omega⟩, ⟨by omega⟩, ⟨Nat.zero_le _⟩, ⟨HRT.out⟩, ⟨Kd.S_nil _ _ _ _ _⟩, ⟨by repeat (first | exact HB0.out | apply pw_below_drewN)⟩⟩
   case round =>
    obtain ⟨p, xs, rfl, HP, HF, HL, HT, HS, HB⟩ := hrel
    by_cases hps : p < s.size
    ·
     cases gk with
     | zero => exact absurd HF.out (by omega)
     | succ kk =>
      have hT := HT.out
      simp only [tkT] at hT
      rw [if_pos hps] at hT
      have hErr : ∀ (a : Nat) (er : Int), tk1T s p xs = .error (a, er) → R = ([], (a : Int), er) := by
       intro a er h
       rw [h] at hT
       rw [← HRR.out, ← hT]
       rfl
      have hOk : ∀ q ys, tk1T s p xs = .ok (q, ys) → tkT s kk q ys = RT := by
       intro q ys h
       rw [h] at hT
       exact hT
      clear hT HT
      have hxl : xs.length ≤ 3000 := by have := HL.out; omega
      have g1 : decide ((p : Int) < (s.size : Int)) = true := decide_eq_true (by omega)
      go_wp2_with fail
      cases c1 : Lib.hasPrefix (rs s p) [60, 33, 45, 45] with
      | true =>
       have hA1 := fun w => rAt s ⟨#[60, 33, 45, 45]⟩ p true c1 w (by omega) (by omega) (by decide) (by decide)
       refine (hA1 _).mono ?_
       rintro e0 w3 ⟨rfl, n3, rfl⟩
       clear hA1
       go_wp2_with fail
       have hI : formI (rs s p) = some 0 := by unfold formI; rw [if_pos c1]
       have hTk : tk1T s p xs = form1R s (p + 4) xs := by unfold tk1T; rw [hI]; rfl
       have hp4 : p + 4 ≤ s.size := by have := Lib.hasPrefix_le c1; rw [rs_len] at this; simp at this; omega
       have hF := fun w => rFind s ⟨#[45, 45, 62]⟩ (p + 4) _ rfl w (by omega) (by omega) (by decide) (by decide)
       rw [show ((p + 4 : Nat) : Int) = (p : Int) + 4 by omega] at hF
       clear hI c1
       refine (hF _).mono ?_
       rintro e0 w3 ⟨rfl, n4, rfl⟩
       clear hF
       rcases until_find s (p + 4) [45, 45, 62] hp4 with ⟨hf1, hf2⟩ | ⟨e, hf1, hue, hes, hf2⟩
       ·
        rw [hf1]
        obtain rfl := hErr _ _ (by rw [hTk]; unfold form1R form1T; rw [hf2]; rfl)
        clear hErr
        go_wp2_with fail
        go_ret3
        exact RTok_err (by first | rfl | omega | (simp; omega)) (by repeat (first | exact HB.out | apply pw_below_drewN))
       ·
        rw [hf1]
        simp only [List.length_cons, List.length_nil] at hes hf2
        have g4 : decide ((e : Int) < 0) = false := decide_eq_false (by omega)
        have hsr : ∀ w : World, (Instr.slice 9 (.string s) (some (.int .i64 ((p : Int) + 4))) (some (.int .i64 (e : Int))) none).run Tryz.prog w = .ok (.string (s.extract (p + 4) e)) w := fun w => slice_two s ((p : Int) + 4) (e : Int) (p + 4) e (by omega) rfl hue (by omega) w
        have hD := fun w => rFind (s.extract (p + 4) e) ⟨#[45, 45]⟩ 0 _ rfl w (by omega) (by simp; omega) (by decide) (by decide)
        rw [show ((0 : Nat) : Int) = 0 from rfl] at hD
        clear hf1
        go_wp2_with fail
        refine (hD _).mono ?_
        rintro e0 w3 ⟨rfl, n5, rfl⟩
        clear hD
        cases hcd : Lib.contains (s.extract (p + 4) e).data.toList [45, 45] with
        | true =>
         have g5 : decide ((0 : Int) ≤ findZ (s.extract (p + 4) e) 0 [45, 45]) = true := by rw [← find_contains]; exact hcd
         obtain rfl := hErr _ _ (by rw [hTk]; unfold form1R form1T; rw [hf2]; simp only; rw [if_pos hcd, Nat.add_sub_cancel]; rfl)
         clear hErr
         go_wp2_with fail
         go_ret3
         exact RTok_err (by first | rfl | omega | (simp; omega)) (by repeat (first | exact HB.out | apply pw_below_drewN))
        | false =>
         have g5 : decide ((0 : Int) ≤ findZ (s.extract (p + 4) e) 0 [45, 45]) = false := by rw [← find_contains]; exact hcd
         have HOK := Lib.hid (hOk (e + 3) xs (by rw [hTk]; unfold form1R form1T; rw [hf2]; simp only; rw [if_neg (by rw [hcd]; simp)]; rfl))
         clear hErr hOk hf2 hcd hTk
         go_wp2_with fail
         go_roundg kk
         case measure => omega
         case rel => exact ⟨e + 3, xs, by go_num, ⟨by omega⟩, ⟨by have := HF.out; omega⟩, ⟨by have := HL.out; simp; omega⟩, ⟨HOK.out⟩, ⟨by repeat (first | exact HS.out | apply Kd.S_drewN)⟩, ⟨by repeat (first | exact HB.out | apply pw_below_drewN)⟩⟩
      | false =>
       have hA1 := fun w => rAt s ⟨#[60, 33, 45, 45]⟩ p false c1 w (by omega) (by omega) (by decide) (by decide)
       refine (hA1 _).mono ?_
       rintro e0 w3 ⟨rfl, n3, rfl⟩
       clear hA1
       go_wp2_with fail
       cases c2 : Lib.hasPrefix (rs s p) [60, 33, 91, 67, 68, 65, 84, 65, 91] with
       | true =>
        have hA2 := fun w => rAt s ⟨#[60, 33, 91, 67, 68, 65, 84, 65, 91]⟩ p true c2 w (by omega) (by omega) (by decide) (by decide)
        refine (hA2 _).mono ?_
        rintro e0 w3 ⟨rfl, n4, rfl⟩
        clear hA2
        go_wp2_with fail
        have hI : formI (rs s p) = some 1 := by unfold formI; rw [if_neg (by rw [c1]; simp), if_pos c2]
        have hTk : tk1T s p xs = form2T s (p + 9) xs := by unfold tk1T; rw [hI]; rfl
        have hp9 : p + 9 ≤ s.size := by have := Lib.hasPrefix_le c2; rw [rs_len] at this; simp at this; omega
        have hF := fun w => rFind s ⟨#[93, 93, 62]⟩ (p + 9) _ rfl w (by omega) (by omega) (by decide) (by decide)
        rw [show ((p + 9 : Nat) : Int) = (p : Int) + 9 by omega] at hF
        clear hI c1 c2
        refine (hF _).mono ?_
        rintro e0 w3 ⟨rfl, n5, rfl⟩
        clear hF
        rcases until_find s (p + 9) [93, 93, 62] hp9 with ⟨hf1, hf2⟩ | ⟨e, hf1, hue, hes, hf2⟩
        ·
         rw [hf1]
         obtain rfl := hErr _ _ (by rw [hTk]; unfold form2T; rw [hf2])
         clear hErr
         go_wp2_with fail
         go_ret3
         exact RTok_err (by first | rfl | omega | (simp; omega)) (by repeat (first | exact HB.out | apply pw_below_drewN))
        ·
         rw [hf1]
         simp only [List.length_cons, List.length_nil] at hes hf2
         have g4 : decide ((e : Int) < 0) = false := decide_eq_false (by omega)
         have hsr : ∀ w : World, (Instr.slice 9 (.string s) (some (.int .i64 ((p : Int) + 9))) (some (.int .i64 (e : Int))) none).run Tryz.prog w = .ok (.string (s.extract (p + 9) e)) w := fun w => slice_two s ((p : Int) + 9) (e : Int) (p + 9) e (by omega) rfl hue (by omega) w
         clear hf1
         have hlen : (s.extract (p + 9) e).data.toList.length = e - (p + 9) := by rw [← Lib.size_eq]; simp; omega
         by_cases hem : p + 9 < e
         ·
          have g5 : decide ((p : Int) + 9 < (e : Int)) = true := decide_eq_true (by omega)
          have HOK := Lib.hid (hOk (e + 3) (xs ++ [⟨3, ⟨#[]⟩, s.extract (p + 9) e, [], false, (p : Int)⟩]) (by
           rw [hTk]
           unfold form2T
           rw [hf2]
           simp only
           unfold putT
           rw [if_neg (by rintro ⟨_, h⟩; have h : (s.extract (p + 9) e).data.toList = [] := h; rw [h] at hlen; simp at hlen; omega), Nat.add_sub_cancel]))
          clear hErr hOk hf2 hTk hlen
          go_wp2_with (at_builtin; refine Kd.S_append k88 (w0 := w) (W := _) w.heap.size rfl (.tmp 117) (.tmp 125) 37 88 _ 80 rfl Tryz.underlying37 info88 rfl (by decide) (by decide) u7 (xs.map tr44) (⟨3, ⟨#[]⟩, s.extract (p + 9) e, [], false, (p : Int)⟩ : S88) [.int .u8 3, .string ⟨#[]⟩, .string (s.extract (p + 9) e), .slice none 0 0, .bool false, .int .i64 (p : Int)] (fun _ => True) (fun _ => False) (by simp [Act.eval, Act.put]) (by simp [Act.eval, Act.put]) (k88_mkM _ _ _ (⟨3, ⟨#[]⟩, s.extract (p + 9) e, [], false, (p : Int)⟩ : S88) (Kd.R_nil _ _ _ _ _)) (fun _ h => h.elim) (fun _ _ => trivial) (Kd.S_mono (by repeat (first | exact HS.out | apply Kd.S_drewN)) (fun _ h => ⟨h, id⟩)) (by repeat (first | exact HB.out | apply pw_below_drewN)) (by have := HB.out.size; simp; omega) (by simp; omega) ?_)
          intro v5 w5 hS5 hB5 hg5 hat5
          have HS5 := Lib.hid hS5
          have HB5 := Lib.hid hB5
          clear hS5 hB5 hg5 hat5
          go_wp2_with fail
          go_roundg kk
          case measure => omega
          case rel => exact ⟨e + 3, xs ++ [⟨3, ⟨#[]⟩, s.extract (p + 9) e, [], false, (p : Int)⟩], by go_num, ⟨by omega⟩, ⟨by have := HF.out; omega⟩, ⟨by have := HL.out; simp; omega⟩, ⟨HOK.out⟩, ⟨by rw [List.map_append]; exact HS5.out⟩, ⟨HB5.out⟩⟩
         ·
          have g5 : decide ((p : Int) + 9 < (e : Int)) = false := decide_eq_false (by omega)
          have HOK := Lib.hid (hOk (e + 3) xs (by
           rw [hTk]
           unfold form2T
           rw [hf2]
           simp only
           unfold putT
           rw [if_pos ⟨rfl, List.length_eq_zero_iff.1 (show (s.extract (p + 9) e).data.toList.length = 0 by omega)⟩]))
          clear hErr hOk hf2 hTk hlen
          go_wp2_with fail
          go_roundg kk
          case measure => omega
          case rel => exact ⟨e + 3, xs, by go_num, ⟨by omega⟩, ⟨by have := HF.out; omega⟩, ⟨by have := HL.out; simp; omega⟩, ⟨HOK.out⟩, ⟨by repeat (first | exact HS.out | apply Kd.S_drewN)⟩, ⟨by repeat (first | exact HB.out | apply pw_below_drewN)⟩⟩
       | false =>
        have hA2 := fun w => rAt s ⟨#[60, 33, 91, 67, 68, 65, 84, 65, 91]⟩ p false c2 w (by omega) (by omega) (by decide) (by decide)
        refine (hA2 _).mono ?_
        rintro e0 w3 ⟨rfl, n4, rfl⟩
        clear hA2
        go_wp2_with fail
        cases c3 : Lib.hasPrefix (rs s p) [60, 47] with
        | true =>
         have hA3 := fun w => rAt s ⟨#[60, 47]⟩ p true c3 w (by omega) (by omega) (by decide) (by decide)
         refine (hA3 _).mono ?_
         rintro e0 w3 ⟨rfl, n5, rfl⟩
         clear hA3
         go_wp2_with fail
         have hI : formI (rs s p) = some 2 := by unfold formI; rw [if_neg (by rw [c1]; simp), if_neg (by rw [c2]; simp), if_pos c3]
         have hTk : tk1T s p xs = form3T s (p + 2) xs := by unfold tk1T; rw [hI]; rfl
         have hp2 : p + 2 ≤ s.size := by have := Lib.hasPrefix_le c3; rw [rs_len] at this; simp at this; omega
         have hN := fun w => rName s (p + 2) w (by omega) (by omega)
         rw [show ((p + 2 : Nat) : Int) = (p : Int) + 2 by omega] at hN
         clear hI c1 c2 c3
         refine (hN _).mono ?_
         rintro e0 w3 ⟨rfl, n6, rfl⟩
         clear hN
         rcases name_cases s (p + 2) hp2 with ⟨hn1, hn2⟩ | ⟨hn1, hn2, hn3⟩
         ·
          rw [hn2]
          have g4 : (((p + 2 : Nat) : Int) == (p : Int) + 2) = true := beq_iff_eq.2 (by omega)
          obtain rfl := hErr _ _ (by rw [hTk]; unfold form3T; rw [hn1])
          clear hErr
          go_wp2_with fail
          go_ret3
          exact RTok_err (by first | rfl | omega | (simp; omega)) (by repeat (first | exact HB.out | apply pw_below_drewN))
         ·
          obtain ⟨m, hm⟩ : ∃ m, nmEnd s (p + 2) = m := ⟨_, rfl⟩
          rw [hm] at hn1 hn2 hn3 ⊢
          clear hm
          have g4 : ((m : Int) == (p : Int) + 2) = false := beq_eq_false_iff_ne.2 (by omega)
          have hK := fun w => rSkip s m w (by omega) (by omega)
          have hbl := blankN_le (rs s m)
          rw [rs_len] at hbl
          obtain ⟨v, hv⟩ : ∃ v, m + blankN (rs s m) = v := ⟨_, rfl⟩
          rw [hv] at hK
          have hv1 : m ≤ v ∧ v ≤ s.size := by omega
          go_wp2_with fail
          refine (hK _).mono ?_
          rintro e0 w3 ⟨rfl, n7, rfl⟩
          clear hK
          go_wp2_with fail
          cases hgt : Lib.hasPrefix (rs s v) [62] with
          | false =>
           have hA4 := fun w => rAt s ⟨#[62]⟩ v false hgt w (by omega) (by omega) (by decide) (by decide)
           refine (hA4 _).mono ?_
           rintro e0 w3 ⟨rfl, n8, rfl⟩
           clear hA4
           obtain rfl := hErr _ _ (by rw [hTk]; unfold form3T; rw [hn3]; simp only; rw [hv]; unfold mustT; rw [if_neg (by rw [hgt]; simp)])
           clear hErr
           go_wp2_with fail
           go_ret3
           exact RTok_err (by first | rfl | omega | (simp; omega)) (by repeat (first | exact HB.out | apply pw_below_drewN))
          | true =>
           have hA4 := fun w => rAt s ⟨#[62]⟩ v true hgt w (by omega) (by omega) (by decide) (by decide)
           have hv3 : v + 1 ≤ s.size := by have := Lib.hasPrefix_le hgt; rw [rs_len] at this; simp at this; omega
           have hsr : ∀ w : World, (Instr.slice 9 (.string s) (some (.int .i64 ((p : Int) + 2))) (some (.int .i64 (m : Int))) none).run Tryz.prog w = .ok (.string (s.extract (p + 2) m)) w := fun w => slice_two s ((p : Int) + 2) (m : Int) (p + 2) m (by omega) rfl (by omega) (by omega) w
           have HOK := Lib.hid (hOk (v + 1) (xs ++ [⟨2, s.extract (p + 2) m, ⟨#[]⟩, [], false, (p : Int)⟩]) (by
            rw [hTk]
            unfold form3T
            rw [hn3]
            simp only
            rw [hv]
            unfold mustT
            rw [if_pos hgt]
            simp only
            unfold putT
            rw [if_neg (by rintro ⟨h, _⟩; have h : (2 : Int) = 3 := h; omega), Nat.add_sub_cancel]
            rfl))
           clear hErr hOk hn3 hTk hv hgt
           refine (hA4 _).mono ?_
           rintro e0 w3 ⟨rfl, n8, rfl⟩
           go_wp2_with (at_builtin; refine Kd.S_append k88 (w0 := w) (W := _) w.heap.size rfl (.tmp 150) (.tmp 158) 37 88 _ 80 rfl Tryz.underlying37 info88 rfl (by decide) (by decide) u7 (xs.map tr44) (⟨2, s.extract (p + 2) m, ⟨#[]⟩, [], false, (p : Int)⟩ : S88) [.int .u8 2, .string (s.extract (p + 2) m), .string ⟨#[]⟩, .slice none 0 0, .bool false, .int .i64 (p : Int)] (fun _ => True) (fun _ => False) (by simp [Act.eval, Act.put]) (by simp [Act.eval, Act.put]) (k88_mkM _ _ _ (⟨2, s.extract (p + 2) m, ⟨#[]⟩, [], false, (p : Int)⟩ : S88) (Kd.R_nil _ _ _ _ _)) (fun _ h => h.elim) (fun _ _ => trivial) (Kd.S_mono (by repeat (first | exact HS.out | apply Kd.S_drewN)) (fun _ h => ⟨h, id⟩)) (by repeat (first | exact HB.out | apply pw_below_drewN)) (by have := HB.out.size; simp; omega) (by simp; omega) ?_)
           intro v5 w5 hS5 hB5 hg5 hat5
           have HS5 := Lib.hid hS5
           have HB5 := Lib.hid hB5
           clear hS5 hB5 hg5 hat5
           go_wp2_with fail
           go_roundg kk
           case measure => omega
           case rel => exact ⟨v + 1, xs ++ [⟨2, s.extract (p + 2) m, ⟨#[]⟩, [], false, (p : Int)⟩], by go_num, ⟨by omega⟩, ⟨by have := HF.out; omega⟩, ⟨by have := HL.out; simp; omega⟩, ⟨HOK.out⟩, ⟨by rw [List.map_append]; exact HS5.out⟩, ⟨HB5.out⟩⟩
        | false =>
         have hA3 := fun w => rAt s ⟨#[60, 47]⟩ p false c3 w (by omega) (by omega) (by decide) (by decide)
         refine (hA3 _).mono ?_
         rintro e0 w3 ⟨rfl, n5, rfl⟩
         clear hA3
         have h60e : Lib.hasPrefix (rs s p) [60] = (s[p]'hps == 60) := by
          have := head_lt s p hps
          rw [this]
          simp [Lib.hasPrefix, List.isPrefixOf]
          exact Bool.beq_comm
         by_cases h60 : s[p]'hps = 60
         ·
          have c4 : Lib.hasPrefix (rs s p) [60] = true := by rw [h60e, h60]; rfl
          clear h60e
          have hI : formI (rs s p) = some 3 := by unfold formI; rw [if_neg (by rw [c1]; simp), if_neg (by rw [c2]; simp), if_neg (by rw [c3]; simp), if_pos c4]
          have hTk : tk1T s p xs = form4T s (p + 1) xs := by unfold tk1T; rw [hI]; rfl
          rw [form4_open] at hTk
          have g3 : ((((s[p]'hps).toNat : Nat) : Int) == 60) = true := by rw [h60]; rfl
          have hO := fun w => rOpen s p w hps hs
          clear hI c1 c2 c3 c4 h60
          go_wp2_with fail
          refine (hO _).mono ?_
          rintro e0 w4 hr
          clear hO
          cases hop : openT s (p + 1) with
          | error z =>
           obtain ⟨a, er⟩ := z
           rw [hop] at hr hTk
           obtain ⟨rfl, hb4⟩ := hr
           have hne : er ≠ 0 := nz_open s (p + 1) _ hop
           have hne1 : (er == 0) = false := beq_eq_false_iff_ne.2 hne
           have HBn : Aside0 (Below w.heap.size w w4) := ⟨(by repeat (first | exact HB.out | apply pw_below_drewN) : Below w.heap.size w _).trans (hb4.mono (by have := HB.out.size; simp; omega))⟩
           clear hb4
           obtain rfl := hErr _ _ (hTk)
           clear hErr
           go_wp2_with fail
           go_ret3
           exact RTok_err (by first | rfl | omega | (simp; omega)) (below_alloc HBn.out _)
          | ok z =>
           obtain ⟨t, q⟩ := z
           rw [hop] at hr hTk
           have hk1 := open_kind hop
           have hq := tk1_le hps (hTk.trans rfl)
           obtain ⟨v, rfl, hR4, hb4⟩ := hr
           have hsz4 : wr.heap.size ≤ w4.heap.size := by have := hb4.size; simp at this; exact this
           have HBn : Aside0 (Below w.heap.size w w4) := ⟨(by repeat (first | exact HB.out | apply pw_below_drewN) : Below w.heap.size w _).trans (hb4.mono (by have := HB.out.size; simp; omega))⟩
           have HSn : Aside0 (Kd.S k88 88 w4 w.heap.size (fun k => k < wr.heap.size) u7 (xs.map tr44)) := ⟨Kd.S_below (by repeat (first | exact (Kd.S_mono (Kd.S_bound HS.out) (fun k h => h.2.2.1)) | apply Kd.S_drewN)) hb4⟩
           have hne : ∀ k, u7.ownBlock = some k → k < wr.heap.size := by
            obtain ⟨f, hf⟩ := HSn.out
            exact hf.1
           have HNE := Lib.hid hne
           have HR4 : Aside0 (k92.R 92 w4 w.heap.size (fun k => wr.heap.size ≤ k) v (t.f3.map tr77)) := ⟨Kd.R_lower (Kd.R_mono (Kd.R_bound hR4) (fun k h => by have := h.2.1; simpa using this)) (by have := HB.out.size; simp; omega)⟩
           obtain ⟨A4, c4, rfl⟩ := Kd.R_slice HR4.out
           rw [List.length_map] at HR4
           have HOK := Lib.hid (hOk q (xs ++ [t]) (hTk.trans (by simp only; unfold putT; rw [if_neg (by rintro ⟨h, _⟩; rw [hk1] at h; have h : (1 : Int) = 3 := h; omega)])))
           clear hErr hOk hTk hop hk1 hne hR4 hb4
           go_wp2_with (at_builtin; refine Kd.S_append k88 (w0 := w) (W := _) w.heap.size rfl (.tmp 178) (.tmp 180) 37 88 _ 80 rfl Tryz.underlying37 info88 rfl (by decide) (by decide) u7 (xs.map tr44) (tr44 t) [.int .u8 t.f0, .string t.f1, .string t.f2, .slice A4 t.f3.length c4, .bool t.f4, .int .i64 t.f5] (fun _ => True) (fun k => wr.heap.size ≤ k) (by simp [Act.eval, Act.put]) (by simp [Act.eval, Act.put]) (k88_mkM _ _ _ (tr44 t) (Kd.R_below HR4.out (by repeat (first | exact Below.refl _ _ | apply below_drew | apply pw_below_drewN | apply below_alloc)))) (fun k hk => ⟨trivial, fun e => by have := HNE.out k e.symm; omega⟩) (fun _ _ => trivial) (Kd.S_mono (Kd.S_below HSn.out (by repeat (first | exact Below.refl _ _ | apply below_drew | apply pw_below_drewN | apply below_alloc))) (fun k h => ⟨trivial, by omega⟩)) (by repeat (first | exact HBn.out | apply below_drew | apply pw_below_drewN | apply below_alloc)) (by have := HBn.out.size; simp; omega) (by simp; omega) ?_)
           intro v5 w5 hS5 hB5 hg5 hat5
           have HS5 := Lib.hid hS5
           have HB5 := Lib.hid hB5
           clear hS5 hB5 hg5 hat5
           go_wp2_with fail
           go_roundg kk
           case measure => omega
           case rel => exact ⟨q, xs ++ [t], by go_num, ⟨by omega⟩, ⟨by have := HF.out; omega⟩, ⟨by have := HL.out; simp; omega⟩, ⟨HOK.out⟩, ⟨by rw [List.map_append]; exact HS5.out⟩, ⟨HB5.out⟩⟩
         ·
          have c4 : Lib.hasPrefix (rs s p) [60] = false := by rw [h60e]; exact beq_eq_false_iff_ne.2 h60
          clear h60e
          have hI : formI (rs s p) = none := by unfold formI; rw [if_neg (by rw [c1]; simp), if_neg (by rw [c2]; simp), if_neg (by rw [c3]; simp), if_neg (by rw [c4]; simp)]
          have hTk : tk1T s p xs = textTk s p xs := by unfold tk1T; rw [hI]
          have g3 : ((((s[p]'hps).toNat : Nat) : Int) == 60) = false := beq_eq_false_iff_ne.2 (by intro h; apply h60; exact UInt8.toNat_inj.1 (show (s[p]'hps).toNat = 60 by have h : (((s[p]'hps).toNat : Nat) : Int) = 60 := h; omega))
          have hF := fun w => rFind s ⟨#[60]⟩ p _ rfl w (by omega) (by omega) (by decide) (by decide)
          have hcp : 1 ≤ (Lib.cut (rs s p) [60]).1.length := by
           cases hl : rs s p with
           | nil => have := congrArg List.length hl; rw [rs_len] at this; simp at this; omega
           | cons b l => exact cut_pos b l (by rw [← hl]; exact c4)
          obtain ⟨e, hpe, hes, hce1, hce2⟩ := cut_find s p (by omega)
          rw [hce1, ← Lib.size_eq] at hcp
          simp at hcp
          clear hI c1 c2 c3 c4 h60
          go_wp2_with fail
          refine (hF _).mono ?_
          rintro e0 w3 ⟨rfl, n7, rfl⟩
          clear hF
          have hsr : ∀ w : World, (Instr.slice 9 (.string s) (some (.int .i64 (p : Int))) (some (.int .i64 (e : Int))) none).run Tryz.prog w = .ok (.string (s.extract p e)) w := fun w => slice_two s (p : Int) (e : Int) p e rfl rfl hpe (by omega) w
          have hun := fun w => rUnesc (s.extract p e) (by simp; omega) w
          obtain ⟨xo, hxo⟩ : ∃ xo, (un (s.extract p e).data.toList 0 []).1 = xo := ⟨_, rfl⟩
          obtain ⟨pl, hpl⟩ : ∃ pl, (un (s.extract p e).data.toList 0 []).2.1 = pl := ⟨_, rfl⟩
          obtain ⟨er, her⟩ : ∃ er, (un (s.extract p e).data.toList 0 []).2.2 = er := ⟨_, rfl⟩
          have hplb : pl ≤ (s.extract p e).data.toList.length := by have := un_place _ (s.extract p e).data.toList 0 [] (Nat.le_refl _); rw [hpl] at this; omega
          rw [← Lib.size_eq] at hplb
          simp at hplb
          simp only [hxo, hpl, her] at hun
          rcases hce2 with hz | ⟨hz, rfl⟩
          case' inl =>
           have g4 : decide ((e : Int) < 0) = false := decide_eq_false (by omega)
           rw [hz]
          all_goals
           try rw [hz]
           clear hz
           go_wp2_with fail
           refine (hun _).mono ?_
           rintro e0 w4 ⟨rfl, hb4⟩
           clear hun
           have hsz4 : wr.heap.size ≤ w4.heap.size := by have := hb4.size; simp at this; exact this
           have HBn : Aside0 (Below w.heap.size w w4) := ⟨(by repeat (first | exact HB.out | apply pw_below_drewN) : Below w.heap.size w _).trans (hb4.mono (by have := HB.out.size; simp; omega))⟩
           have HSn : Aside0 (Kd.S k88 88 w4 w.heap.size (fun _ => True) u7 (xs.map tr44)) := ⟨Kd.S_below (by repeat (first | exact HS.out | apply Kd.S_drewN)) hb4⟩
           clear hb4
           by_cases h0 : er = 0
           ·
            subst h0
            have HOK := Lib.hid (hOk _ _ (hTk.trans (text_step hce1 (by omega) hes her hxo)))
            clear hErr hOk hTk hce1 her hxo hpl
            go_wp2_with (at_builtin; refine Kd.S_append k88 (w0 := w) (W := _) w.heap.size rfl (.tmp 72) (.tmp 76) 37 88 _ 80 rfl Tryz.underlying37 info88 rfl (by decide) (by decide) u7 (xs.map tr44) (⟨3, ⟨#[]⟩, ⟨xo.toArray⟩, [], false, (p : Int)⟩ : S88) [.int .u8 3, .string ⟨#[]⟩, .string ⟨xo.toArray⟩, .slice none 0 0, .bool false, .int .i64 (p : Int)] (fun _ => True) (fun _ => False) (by simp [Act.eval, Act.put]) (by simp [Act.eval, Act.put]) (k88_mkM _ _ _ (⟨3, ⟨#[]⟩, ⟨xo.toArray⟩, [], false, (p : Int)⟩ : S88) (Kd.R_nil _ _ _ _ _)) (fun _ h => h.elim) (fun _ _ => trivial) (Kd.S_mono HSn.out (fun _ h => ⟨h, id⟩)) HBn.out HBn.out.size (by simp; omega) ?_)
            intro v5 w5 hS5 hB5 hg5 hat5
            have HS5 := Lib.hid hS5
            have HB5 := Lib.hid hB5
            clear hS5 hB5 hg5 hat5
            go_wp2_with fail
            go_roundg kk
            case measure => omega
            case rel => exact ⟨_, xs ++ [⟨3, ⟨#[]⟩, ⟨xo.toArray⟩, [], false, (p : Int)⟩], by go_num, ⟨by omega⟩, ⟨by have := HF.out; omega⟩, ⟨by have := HL.out; simp; omega⟩, ⟨HOK.out⟩, ⟨by rw [List.map_append]; exact HS5.out⟩, ⟨HB5.out⟩⟩
           ·
            have hne1 : (er == 0) = false := beq_eq_false_iff_ne.2 h0
            obtain rfl := hErr _ _ (hTk.trans (text_err hce1 her h0 hpl))
            clear hErr
            go_wp2_with fail
            go_ret3
            exact RTok_err (by first | rfl | omega | (simp; omega)) (HBn.out)
    ·
     have hRT : RT = .ok xs := by rw [← HT.out]; exact tkEnd s gk p xs hps
     have hRR : R = (xs, (s.size : Int), 0) := by rw [← HRR.out, hRT]; rfl
     subst hRR
     have g1 : decide ((p : Int) < (s.size : Int)) = false := decide_eq_false (by omega)
     go_wp2_with fail
     go_ret3
     exact ⟨_, rfl, (by repeat (first | exact HS.out | apply Kd.S_drewN)), (by repeat (first | exact HB.out | apply pw_below_drewN))⟩
 ·
  rw [if_pos hc] at hR
  subst hR
  have hne1 : (ce == 0) = false := beq_eq_false_iff_ne.2 hc
  go_enter Tryz.func23, Tryz.ntmps23
  go_wp2_with fail
  refine (hck _).mono ?_
  rintro e w1 ⟨rfl, hb1⟩
  have HB0 := Aside0.mk hb1
  clear hck hb1
  go_wp2_with fail
  go_ret3
  exact RTok_err rfl HB0.out
end Go.Proofs.YtknfpggiigncpaaGreatDoor.C
