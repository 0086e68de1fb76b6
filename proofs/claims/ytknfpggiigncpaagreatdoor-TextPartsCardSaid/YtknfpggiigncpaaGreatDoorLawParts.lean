/- A text whose parts are good is good, and where the first fault of a whole lies: the law's walk, by hand, over the contracts. -/
import Derived.Test.YtknfpggiigncpaaGreatDoorLawBack
import Derived.Test.YtknfpggiigncpaaGreatDoorPx1
namespace Go.Proofs.YtknfpggiigncpaaGreatDoor.P
open Go.RowKit Go.Proofs.YtknfpggiigncpaaGreatDoorW.PrintWords

theorem check_at (s : ByteArray) (w : World) (hs : s.size ≤ 140737488355328) (hG : Glob w) (r1 r2 : Int) (h1 : ((ckL s.data.toList).1 : Int) = r1) (h2 : (ckL s.data.toList).2 = r2) :
    Calls Tryz.prog 27 #[.string s] w fun e w' => e = .returned (.tuple #[.int .i64 r1, .int .i64 r2]) ∧ Below w.heap.size w w' :=
  text_Check.calls s r1 r2 w (by rw [check_f s hs, h1, h2]) hG

set_option maxHeartbeats 4000000 in
set_option maxRecDepth 100000 in
theorem parts_walk (a0 a1 : ByteArray) (w : World) (w0 : a0.size ≤ 140737488351232) (w1 : a1.size ≤ 140737488351232) (hG : Glob w) :
    Calls Tryz.prog 8 #[.string a0, .string a1] w fun e w' => e = .returned (.bool true) ∧ Below w.heap.size w w' := by
  have HG := Lib.hid hG
  have hsum : IntKind.i64.wrap ((a0.size : Int) + (a1.size : Int)) = (a0.size : Int) + (a1.size : Int) := wrap_small _ (by omega) (by omega)
  by_cases hbig : 1000 < (a0.size : Int) + (a1.size : Int)
  · clear hG w0 w1
    go_enter Tryz.func8, Tryz.ntmps8
    go_wp2_with fail
    refine (remitterlaw08_wakes.calls true _ wakes_true HG.out).mono ?_
    rintro e w2 ⟨rfl, hb⟩
    have Hb := Lib.hid hb
    clear hb
    go_wp2_with fail
    go_ret
    exact ⟨rfl, Hb.out⟩
  · have happ : (a0 ++ a1).data.toList = a0.data.toList ++ a1.data.toList := Lib.ba_append a0 a1
    have happs : (a0 ++ a1).size = a0.size + a1.size := by simp
    have hl0 : a0.data.toList.length = a0.size := by simp
    obtain ⟨k1, k2⟩ := ck_append _ a0.data.toList a1.data.toList (Nat.le_refl _)
    rw [← happ, hl0] at k1 k2
    obtain ⟨p, hp⟩ : ∃ p : Int, ((ckL a0.data.toList).1 : Int) = p := ⟨_, rfl⟩
    obtain ⟨e, he⟩ : ∃ e : Int, (ckL a0.data.toList).2 = e := ⟨_, rfl⟩
    obtain ⟨q, hq⟩ : ∃ p : Int, ((ckL a1.data.toList).1 : Int) = p := ⟨_, rfl⟩
    obtain ⟨f, hf⟩ : ∃ e : Int, (ckL a1.data.toList).2 = e := ⟨_, rfl⟩
    obtain ⟨c, hc⟩ : ∃ p : Int, ((ckL (a0 ++ a1).data.toList).1 : Int) = p := ⟨_, rfl⟩
    obtain ⟨g, hg⟩ : ∃ e : Int, (ckL (a0 ++ a1).data.toList).2 = e := ⟨_, rfl⟩
    have hq2 : 0 ≤ q ∧ q ≤ a1.size := by
      have hl1 : a1.data.toList.length = a1.size := by simp
      obtain ⟨m1, m2⟩ := ck_append _ a1.data.toList [] (Nat.le_refl _)
      rw [hl1] at m1 m2
      by_cases h : (ckL a1.data.toList).2 = 0
      · have := (m1 h).1; omega
      · have := (m2 h).1; omega
    have c0 := fun w hG => check_at a0 w (by omega) hG p e hp he
    have c1 := fun w hG => check_at a1 w (by omega) hG q f hq hf
    have c2 := fun w hG => check_at (a0 ++ a1) w (by omega) hG c g hc hg
    have hmax : a0.size + a1.size ≤ 9223372036854775807 := by omega
    have C0 := Lib.hid c0
    have C1 := Lib.hid c1
    have C2 := Lib.hid c2
    clear c0 c1 c2
    by_cases hz : e = 0
    · obtain ⟨j1, j2⟩ := k1 (by omega)
      have hpz : p = a0.size := by omega
      have hcz : c = p + q := by rw [← hc, j2, hpz, ← hq]; simp
      have hgf : g = f := by rw [← hg, j2, ← hf]
      have hw2 : IntKind.i64.wrap (p + q) = p + q := wrap_small _ (by omega) (by omega)
      subst hz hgf hcz hpz
      clear j1 j2 k1 k2 happ hl0 hp he hq hf hc hg hG w0 w1 hmax
      go_enter Tryz.func8, Tryz.ntmps8
      go_wp2_with fail
      refine (C0.out _ HG.out).mono ?_
      rintro e1 w2 ⟨rfl, hb2⟩
      have hB2 := Lib.hid hb2
      have hG2 := Lib.hid (HG.out.below hb2)
      clear hb2
      go_wp2_with fail
      refine (C1.out _ hG2.out).mono ?_
      rintro e1 w3 ⟨rfl, hb3⟩
      have hB3 := Lib.hid (hB2.out.trans (hb3.mono hB2.out.size))
      have hG3 := Lib.hid (HG.out.below hB3.out)
      clear hb3
      go_wp2_with fail
      refine (C2.out _ hG3.out).mono ?_
      rintro e1 w4 ⟨rfl, hb4⟩
      have hB4 := Lib.hid (hB3.out.trans (hb4.mono hB3.out.size))
      have hG4 := Lib.hid (HG.out.below hB4.out)
      clear hb4
      go_wp2_with fail
      refine (remitterlaw08_wakes.calls true _ wakes_true hG4.out).mono ?_
      rintro e1 w5 ⟨rfl, hb5⟩
      have hB5 := Lib.hid (hB4.out.trans (hb5.mono hB4.out.size))
      clear hb5
      go_wp2_with fail
      go_ret
      exact ⟨rfl, hB5.out⟩
    · obtain ⟨j1, j2⟩ := k2 (by omega)
      have hpz : p < a0.size := by omega
      have hez : (e != 0) = true := by simp [hz]
      rcases j2 with j2 | ⟨j2, j3⟩
      · have he20 : e = 20 := by omega
        subst he20
        by_cases hg0 : (g != 0) = true
        · by_cases hge : p ≤ c
          · clear j1 j2 k1 k2 happ hl0 hp he hq hf hc hg hG w0 w1 hmax
            go_enter Tryz.func8, Tryz.ntmps8
            go_wp2_with fail
            refine (C0.out _ HG.out).mono ?_
            rintro e1 w2 ⟨rfl, hb2⟩
            have hB2 := Lib.hid hb2
            have hG2 := Lib.hid (HG.out.below hb2)
            clear hb2
            go_wp2_with fail
            refine (C1.out _ hG2.out).mono ?_
            rintro e1 w3 ⟨rfl, hb3⟩
            have hB3 := Lib.hid (hB2.out.trans (hb3.mono hB2.out.size))
            have hG3 := Lib.hid (HG.out.below hB3.out)
            clear hb3
            go_wp2_with fail
            refine (C2.out _ hG3.out).mono ?_
            rintro e1 w4 ⟨rfl, hb4⟩
            have hB4 := Lib.hid (hB3.out.trans (hb4.mono hB3.out.size))
            have hG4 := Lib.hid (HG.out.below hB4.out)
            clear hb4
            go_wp2_with fail
            refine (remitterlaw08_wakes.calls true _ wakes_true hG4.out).mono ?_
            rintro e1 w5 ⟨rfl, hb5⟩
            have hB5 := Lib.hid (hB4.out.trans (hb5.mono hB4.out.size))
            clear hb5
            go_wp2_with fail
            go_ret
            exact ⟨rfl, hB5.out⟩
          · clear j1 j2 k1 k2 happ hl0 hp he hq hf hc hg hG w0 w1 hmax
            go_enter Tryz.func8, Tryz.ntmps8
            go_wp2_with fail
            refine (C0.out _ HG.out).mono ?_
            rintro e1 w2 ⟨rfl, hb2⟩
            have hB2 := Lib.hid hb2
            have hG2 := Lib.hid (HG.out.below hb2)
            clear hb2
            go_wp2_with fail
            refine (C1.out _ hG2.out).mono ?_
            rintro e1 w3 ⟨rfl, hb3⟩
            have hB3 := Lib.hid (hB2.out.trans (hb3.mono hB2.out.size))
            have hG3 := Lib.hid (HG.out.below hB3.out)
            clear hb3
            go_wp2_with fail
            refine (C2.out _ hG3.out).mono ?_
            rintro e1 w4 ⟨rfl, hb4⟩
            have hB4 := Lib.hid (hB3.out.trans (hb4.mono hB3.out.size))
            have hG4 := Lib.hid (HG.out.below hB4.out)
            clear hb4
            go_wp2_with fail
            refine (remitterlaw08_wakes.calls true _ wakes_true hG4.out).mono ?_
            rintro e1 w5 ⟨rfl, hb5⟩
            have hB5 := Lib.hid (hB4.out.trans (hb5.mono hB4.out.size))
            clear hb5
            go_wp2_with fail
            go_ret
            exact ⟨rfl, hB5.out⟩
        · have hg1 : (g != 0) = false := by simpa using hg0
          clear hg0
          clear j1 j2 k1 k2 happ hl0 hp he hq hf hc hg hG w0 w1 hmax
          go_enter Tryz.func8, Tryz.ntmps8
          go_wp2_with fail
          refine (C0.out _ HG.out).mono ?_
          rintro e1 w2 ⟨rfl, hb2⟩
          have hB2 := Lib.hid hb2
          have hG2 := Lib.hid (HG.out.below hb2)
          clear hb2
          go_wp2_with fail
          refine (C1.out _ hG2.out).mono ?_
          rintro e1 w3 ⟨rfl, hb3⟩
          have hB3 := Lib.hid (hB2.out.trans (hb3.mono hB2.out.size))
          have hG3 := Lib.hid (HG.out.below hB3.out)
          clear hb3
          go_wp2_with fail
          refine (C2.out _ hG3.out).mono ?_
          rintro e1 w4 ⟨rfl, hb4⟩
          have hB4 := Lib.hid (hB3.out.trans (hb4.mono hB3.out.size))
          have hG4 := Lib.hid (HG.out.below hB4.out)
          clear hb4
          go_wp2_with fail
          refine (remitterlaw08_wakes.calls true _ wakes_true hG4.out).mono ?_
          rintro e1 w5 ⟨rfl, hb5⟩
          have hB5 := Lib.hid (hB4.out.trans (hb5.mono hB4.out.size))
          clear hb5
          go_wp2_with fail
          go_ret
          exact ⟨rfl, hB5.out⟩
      · have he15 : e = 15 := by omega
        have hcp : c = p := by rw [← hc, j3, hp]
        have hg15 : g = 15 := by rw [← hg, j3, he, he15]
        subst he15 hcp hg15
        clear j1 j2 k1 k2 happ hl0 hp he hq hf hc hg hG w0 w1 hmax
        go_enter Tryz.func8, Tryz.ntmps8
        go_wp2_with fail
        refine (C0.out _ HG.out).mono ?_
        rintro e1 w2 ⟨rfl, hb2⟩
        have hB2 := Lib.hid hb2
        have hG2 := Lib.hid (HG.out.below hb2)
        clear hb2
        go_wp2_with fail
        refine (C1.out _ hG2.out).mono ?_
        rintro e1 w3 ⟨rfl, hb3⟩
        have hB3 := Lib.hid (hB2.out.trans (hb3.mono hB2.out.size))
        have hG3 := Lib.hid (HG.out.below hB3.out)
        clear hb3
        go_wp2_with fail
        refine (C2.out _ hG3.out).mono ?_
        rintro e1 w4 ⟨rfl, hb4⟩
        have hB4 := Lib.hid (hB3.out.trans (hb4.mono hB3.out.size))
        have hG4 := Lib.hid (HG.out.below hB4.out)
        clear hb4
        go_wp2_with fail
        refine (remitterlaw08_wakes.calls true _ wakes_true hG4.out).mono ?_
        rintro e1 w5 ⟨rfl, hb5⟩
        have hB5 := Lib.hid (hB4.out.trans (hb5.mono hB4.out.size))
        clear hb5
        go_wp2_with fail
        go_ret
        exact ⟨rfl, hB5.out⟩
end Go.Proofs.YtknfpggiigncpaaGreatDoor.P
