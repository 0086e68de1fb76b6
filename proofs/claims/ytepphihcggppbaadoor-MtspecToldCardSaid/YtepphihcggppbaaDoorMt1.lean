/- mtspec: words, Number, leaf: walked by hand; and what the words spell: plain. -/
import Derived.Test.YtepphihcggppbaaDoorTk3
import Derived.Test.YtepphihcggppbaaDoorRg
set_option linter.unusedVariables false
set_option linter.unusedSimpArgs false
namespace Go.Proofs.YtepphihcggppbaaDoor.A
open Go.RowKit Go.Proofs.MapLit Go.Proofs.YtepphihcggppbaaDoorW.PrintWords Go.Proofs.YtepphihcggppbaaDoorW.PrintLast Go.Proofs.YtepphihcggppbaaDoorW.PrintMore

def wordsL : List (Int × Value) := [(1, .string ⟨#[65, 32, 40, 32, 50, 48, 32, 50, 56, 68, 32, 53, 48, 72, 32, 51, 48, 32, 41, 32, 49, 32, 49, 32, 66, 32, 40, 32, 50, 49, 32, 51, 50, 66, 32, 53, 55, 65, 63, 32, 53, 57, 32, 55, 48, 63, 32, 55, 49, 65, 32, 41, 32, 49, 32, 49, 48]⟩), (2, .string ⟨#[50, 48, 32, 50, 51, 66, 32, 51, 50, 65, 32, 51, 51, 66, 63, 32, 53, 48, 75, 32, 53, 50, 65, 63, 32, 53, 55, 65, 63, 32, 53, 57, 32, 55, 48, 63, 32, 55, 49, 65, 32, 55, 50, 63]⟩), (3, .string ⟨#[50, 48, 32, 50, 49, 32, 51, 50, 65, 32, 53, 50, 65, 63, 32, 53, 55, 65, 63, 32, 53, 56, 65, 32, 55, 50, 63]⟩), (4, .string ⟨#[50, 48, 32, 50, 53, 32, 50, 56, 67, 32, 54, 48, 70, 32, 69, 110, 116, 114, 121, 32, 40, 32, 54, 49, 32, 56, 54, 63, 32, 41, 32, 48, 32, 50, 48, 32, 54, 50, 70, 32, 54, 52, 63]⟩)]
def numsL : List (Int × Value) := [(1, .string ⟨#[49, 48, 49]⟩), (2, .string ⟨#[49, 48, 51]⟩), (3, .string ⟨#[50, 48, 50]⟩), (4, .string ⟨#[57, 52, 48]⟩)]
def wordB (k : Int) : ByteArray := if k = 1 then ⟨#[65, 32, 40, 32, 50, 48, 32, 50, 56, 68, 32, 53, 48, 72, 32, 51, 48, 32, 41, 32, 49, 32, 49, 32, 66, 32, 40, 32, 50, 49, 32, 51, 50, 66, 32, 53, 55, 65, 63, 32, 53, 57, 32, 55, 48, 63, 32, 55, 49, 65, 32, 41, 32, 49, 32, 49, 48]⟩ else if k = 2 then ⟨#[50, 48, 32, 50, 51, 66, 32, 51, 50, 65, 32, 51, 51, 66, 63, 32, 53, 48, 75, 32, 53, 50, 65, 63, 32, 53, 55, 65, 63, 32, 53, 57, 32, 55, 48, 63, 32, 55, 49, 65, 32, 55, 50, 63]⟩ else if k = 3 then ⟨#[50, 48, 32, 50, 49, 32, 51, 50, 65, 32, 53, 50, 65, 63, 32, 53, 55, 65, 63, 32, 53, 56, 65, 32, 55, 50, 63]⟩ else ⟨#[50, 48, 32, 50, 53, 32, 50, 56, 67, 32, 54, 48, 70, 32, 69, 110, 116, 114, 121, 32, 40, 32, 54, 49, 32, 56, 54, 63, 32, 41, 32, 48, 32, 50, 48, 32, 54, 50, 70, 32, 54, 52, 63]⟩
def numB (k : Int) : ByteArray := if k = 1 then ⟨#[49, 48, 49]⟩ else if k = 2 then ⟨#[49, 48, 51]⟩ else if k = 3 then ⟨#[50, 48, 50]⟩ else if k = 4 then ⟨#[57, 52, 48]⟩ else ⟨#[]⟩
theorem words_any (w : World) : Calls Tryd.prog 21 #[] w fun e w' => e = .returned (.map (some w.heap.size)) ∧ w' = mapW (Value.int .u8) w wordsL := by
  have hmk := mk_map (P := Tryd.prog) (Value.int .u8) 45
  have hi0 : ∀ w : World, (Instr.mapUpdate 45 (.map (some w.heap.size)) (.int .u8 1) (.string ⟨#[65, 32, 40, 32, 50, 48, 32, 50, 56, 68, 32, 53, 48, 72, 32, 51, 48, 32, 41, 32, 49, 32, 49, 32, 66, 32, 40, 32, 50, 49, 32, 51, 50, 66, 32, 53, 55, 65, 63, 32, 53, 57, 32, 55, 48, 63, 32, 55, 49, 65, 32, 41, 32, 49, 32, 49, 48]⟩)).run Tryd.prog (mapW (Value.int .u8) w []) = .ok () (mapW (Value.int .u8) w [(1, .string ⟨#[65, 32, 40, 32, 50, 48, 32, 50, 56, 68, 32, 53, 48, 72, 32, 51, 48, 32, 41, 32, 49, 32, 49, 32, 66, 32, 40, 32, 50, 49, 32, 51, 50, 66, 32, 53, 55, 65, 63, 32, 53, 57, 32, 55, 48, 63, 32, 55, 49, 65, 32, 41, 32, 49, 32, 49, 48]⟩)]) := fun w => run_insertW (keyAs_int .u8) Tryd.underlying45 Tryd.underlying5 (1 : Int) (.string ⟨#[65, 32, 40, 32, 50, 48, 32, 50, 56, 68, 32, 53, 48, 72, 32, 51, 48, 32, 41, 32, 49, 32, 49, 32, 66, 32, 40, 32, 50, 49, 32, 51, 50, 66, 32, 53, 55, 65, 63, 32, 53, 57, 32, 55, 48, 63, 32, 55, 49, 65, 32, 41, 32, 49, 32, 49, 48]⟩) [] (by decide) w
  have hi1 : ∀ w : World, (Instr.mapUpdate 45 (.map (some w.heap.size)) (.int .u8 2) (.string ⟨#[50, 48, 32, 50, 51, 66, 32, 51, 50, 65, 32, 51, 51, 66, 63, 32, 53, 48, 75, 32, 53, 50, 65, 63, 32, 53, 55, 65, 63, 32, 53, 57, 32, 55, 48, 63, 32, 55, 49, 65, 32, 55, 50, 63]⟩)).run Tryd.prog (mapW (Value.int .u8) w [(1, .string ⟨#[65, 32, 40, 32, 50, 48, 32, 50, 56, 68, 32, 53, 48, 72, 32, 51, 48, 32, 41, 32, 49, 32, 49, 32, 66, 32, 40, 32, 50, 49, 32, 51, 50, 66, 32, 53, 55, 65, 63, 32, 53, 57, 32, 55, 48, 63, 32, 55, 49, 65, 32, 41, 32, 49, 32, 49, 48]⟩)]) = .ok () (mapW (Value.int .u8) w [(1, .string ⟨#[65, 32, 40, 32, 50, 48, 32, 50, 56, 68, 32, 53, 48, 72, 32, 51, 48, 32, 41, 32, 49, 32, 49, 32, 66, 32, 40, 32, 50, 49, 32, 51, 50, 66, 32, 53, 55, 65, 63, 32, 53, 57, 32, 55, 48, 63, 32, 55, 49, 65, 32, 41, 32, 49, 32, 49, 48]⟩), (2, .string ⟨#[50, 48, 32, 50, 51, 66, 32, 51, 50, 65, 32, 51, 51, 66, 63, 32, 53, 48, 75, 32, 53, 50, 65, 63, 32, 53, 55, 65, 63, 32, 53, 57, 32, 55, 48, 63, 32, 55, 49, 65, 32, 55, 50, 63]⟩)]) := fun w => run_insertW (keyAs_int .u8) Tryd.underlying45 Tryd.underlying5 (2 : Int) (.string ⟨#[50, 48, 32, 50, 51, 66, 32, 51, 50, 65, 32, 51, 51, 66, 63, 32, 53, 48, 75, 32, 53, 50, 65, 63, 32, 53, 55, 65, 63, 32, 53, 57, 32, 55, 48, 63, 32, 55, 49, 65, 32, 55, 50, 63]⟩) [(1, .string ⟨#[65, 32, 40, 32, 50, 48, 32, 50, 56, 68, 32, 53, 48, 72, 32, 51, 48, 32, 41, 32, 49, 32, 49, 32, 66, 32, 40, 32, 50, 49, 32, 51, 50, 66, 32, 53, 55, 65, 63, 32, 53, 57, 32, 55, 48, 63, 32, 55, 49, 65, 32, 41, 32, 49, 32, 49, 48]⟩)] (by decide) w
  have hi2 : ∀ w : World, (Instr.mapUpdate 45 (.map (some w.heap.size)) (.int .u8 3) (.string ⟨#[50, 48, 32, 50, 49, 32, 51, 50, 65, 32, 53, 50, 65, 63, 32, 53, 55, 65, 63, 32, 53, 56, 65, 32, 55, 50, 63]⟩)).run Tryd.prog (mapW (Value.int .u8) w [(1, .string ⟨#[65, 32, 40, 32, 50, 48, 32, 50, 56, 68, 32, 53, 48, 72, 32, 51, 48, 32, 41, 32, 49, 32, 49, 32, 66, 32, 40, 32, 50, 49, 32, 51, 50, 66, 32, 53, 55, 65, 63, 32, 53, 57, 32, 55, 48, 63, 32, 55, 49, 65, 32, 41, 32, 49, 32, 49, 48]⟩), (2, .string ⟨#[50, 48, 32, 50, 51, 66, 32, 51, 50, 65, 32, 51, 51, 66, 63, 32, 53, 48, 75, 32, 53, 50, 65, 63, 32, 53, 55, 65, 63, 32, 53, 57, 32, 55, 48, 63, 32, 55, 49, 65, 32, 55, 50, 63]⟩)]) = .ok () (mapW (Value.int .u8) w [(1, .string ⟨#[65, 32, 40, 32, 50, 48, 32, 50, 56, 68, 32, 53, 48, 72, 32, 51, 48, 32, 41, 32, 49, 32, 49, 32, 66, 32, 40, 32, 50, 49, 32, 51, 50, 66, 32, 53, 55, 65, 63, 32, 53, 57, 32, 55, 48, 63, 32, 55, 49, 65, 32, 41, 32, 49, 32, 49, 48]⟩), (2, .string ⟨#[50, 48, 32, 50, 51, 66, 32, 51, 50, 65, 32, 51, 51, 66, 63, 32, 53, 48, 75, 32, 53, 50, 65, 63, 32, 53, 55, 65, 63, 32, 53, 57, 32, 55, 48, 63, 32, 55, 49, 65, 32, 55, 50, 63]⟩), (3, .string ⟨#[50, 48, 32, 50, 49, 32, 51, 50, 65, 32, 53, 50, 65, 63, 32, 53, 55, 65, 63, 32, 53, 56, 65, 32, 55, 50, 63]⟩)]) := fun w => run_insertW (keyAs_int .u8) Tryd.underlying45 Tryd.underlying5 (3 : Int) (.string ⟨#[50, 48, 32, 50, 49, 32, 51, 50, 65, 32, 53, 50, 65, 63, 32, 53, 55, 65, 63, 32, 53, 56, 65, 32, 55, 50, 63]⟩) [(1, .string ⟨#[65, 32, 40, 32, 50, 48, 32, 50, 56, 68, 32, 53, 48, 72, 32, 51, 48, 32, 41, 32, 49, 32, 49, 32, 66, 32, 40, 32, 50, 49, 32, 51, 50, 66, 32, 53, 55, 65, 63, 32, 53, 57, 32, 55, 48, 63, 32, 55, 49, 65, 32, 41, 32, 49, 32, 49, 48]⟩), (2, .string ⟨#[50, 48, 32, 50, 51, 66, 32, 51, 50, 65, 32, 51, 51, 66, 63, 32, 53, 48, 75, 32, 53, 50, 65, 63, 32, 53, 55, 65, 63, 32, 53, 57, 32, 55, 48, 63, 32, 55, 49, 65, 32, 55, 50, 63]⟩)] (by decide) w
  have hi3 : ∀ w : World, (Instr.mapUpdate 45 (.map (some w.heap.size)) (.int .u8 4) (.string ⟨#[50, 48, 32, 50, 53, 32, 50, 56, 67, 32, 54, 48, 70, 32, 69, 110, 116, 114, 121, 32, 40, 32, 54, 49, 32, 56, 54, 63, 32, 41, 32, 48, 32, 50, 48, 32, 54, 50, 70, 32, 54, 52, 63]⟩)).run Tryd.prog (mapW (Value.int .u8) w [(1, .string ⟨#[65, 32, 40, 32, 50, 48, 32, 50, 56, 68, 32, 53, 48, 72, 32, 51, 48, 32, 41, 32, 49, 32, 49, 32, 66, 32, 40, 32, 50, 49, 32, 51, 50, 66, 32, 53, 55, 65, 63, 32, 53, 57, 32, 55, 48, 63, 32, 55, 49, 65, 32, 41, 32, 49, 32, 49, 48]⟩), (2, .string ⟨#[50, 48, 32, 50, 51, 66, 32, 51, 50, 65, 32, 51, 51, 66, 63, 32, 53, 48, 75, 32, 53, 50, 65, 63, 32, 53, 55, 65, 63, 32, 53, 57, 32, 55, 48, 63, 32, 55, 49, 65, 32, 55, 50, 63]⟩), (3, .string ⟨#[50, 48, 32, 50, 49, 32, 51, 50, 65, 32, 53, 50, 65, 63, 32, 53, 55, 65, 63, 32, 53, 56, 65, 32, 55, 50, 63]⟩)]) = .ok () (mapW (Value.int .u8) w [(1, .string ⟨#[65, 32, 40, 32, 50, 48, 32, 50, 56, 68, 32, 53, 48, 72, 32, 51, 48, 32, 41, 32, 49, 32, 49, 32, 66, 32, 40, 32, 50, 49, 32, 51, 50, 66, 32, 53, 55, 65, 63, 32, 53, 57, 32, 55, 48, 63, 32, 55, 49, 65, 32, 41, 32, 49, 32, 49, 48]⟩), (2, .string ⟨#[50, 48, 32, 50, 51, 66, 32, 51, 50, 65, 32, 51, 51, 66, 63, 32, 53, 48, 75, 32, 53, 50, 65, 63, 32, 53, 55, 65, 63, 32, 53, 57, 32, 55, 48, 63, 32, 55, 49, 65, 32, 55, 50, 63]⟩), (3, .string ⟨#[50, 48, 32, 50, 49, 32, 51, 50, 65, 32, 53, 50, 65, 63, 32, 53, 55, 65, 63, 32, 53, 56, 65, 32, 55, 50, 63]⟩), (4, .string ⟨#[50, 48, 32, 50, 53, 32, 50, 56, 67, 32, 54, 48, 70, 32, 69, 110, 116, 114, 121, 32, 40, 32, 54, 49, 32, 56, 54, 63, 32, 41, 32, 48, 32, 50, 48, 32, 54, 50, 70, 32, 54, 52, 63]⟩)]) := fun w => run_insertW (keyAs_int .u8) Tryd.underlying45 Tryd.underlying5 (4 : Int) (.string ⟨#[50, 48, 32, 50, 53, 32, 50, 56, 67, 32, 54, 48, 70, 32, 69, 110, 116, 114, 121, 32, 40, 32, 54, 49, 32, 56, 54, 63, 32, 41, 32, 48, 32, 50, 48, 32, 54, 50, 70, 32, 54, 52, 63]⟩) [(1, .string ⟨#[65, 32, 40, 32, 50, 48, 32, 50, 56, 68, 32, 53, 48, 72, 32, 51, 48, 32, 41, 32, 49, 32, 49, 32, 66, 32, 40, 32, 50, 49, 32, 51, 50, 66, 32, 53, 55, 65, 63, 32, 53, 57, 32, 55, 48, 63, 32, 55, 49, 65, 32, 41, 32, 49, 32, 49, 48]⟩), (2, .string ⟨#[50, 48, 32, 50, 51, 66, 32, 51, 50, 65, 32, 51, 51, 66, 63, 32, 53, 48, 75, 32, 53, 50, 65, 63, 32, 53, 55, 65, 63, 32, 53, 57, 32, 55, 48, 63, 32, 55, 49, 65, 32, 55, 50, 63]⟩), (3, .string ⟨#[50, 48, 32, 50, 49, 32, 51, 50, 65, 32, 53, 50, 65, 63, 32, 53, 55, 65, 63, 32, 53, 56, 65, 32, 55, 50, 63]⟩)] (by decide) w
  go_enter Tryd.func21, Tryd.ntmps21
  go_wp2_with fail
  go_ret
  exact ⟨rfl, rfl⟩
theorem mget_words (k : Int) (h : k = 1 ∨ k = 2 ∨ k = 3 ∨ k = 4) : mget wordsL k = some (.string (wordB k)) := by
  rcases h with rfl | rfl | rfl | rfl <;> rfl
theorem mget_nums (k : Int) : (mget numsL k).getD (.string ⟨#[]⟩) = .string (numB k) := by
  unfold mget numsL numB
  by_cases h1 : k = 1
  · subst h1; rfl
  · by_cases h2 : k = 2
    · subst h2; rfl
    · by_cases h3 : k = 3
      · subst h3; rfl
      · by_cases h4 : k = 4
        · subst h4; rfl
        · simp [List.find?_cons, h1, h2, h3, h4]
theorem number_any (k : Int) (w : World) : Calls Tryd.prog 22 #[.int .u8 k] w fun e w' => e = .returned (.string (numB k)) ∧ Below w.heap.size w w' := by
  have hmk := mk_map (P := Tryd.prog) (Value.int .u8) 45
  have hi0 : ∀ w : World, (Instr.mapUpdate 45 (.map (some w.heap.size)) (.int .u8 1) (.string ⟨#[49, 48, 49]⟩)).run Tryd.prog (mapW (Value.int .u8) w []) = .ok () (mapW (Value.int .u8) w [(1, .string ⟨#[49, 48, 49]⟩)]) := fun w => run_insertW (keyAs_int .u8) Tryd.underlying45 Tryd.underlying5 (1 : Int) (.string ⟨#[49, 48, 49]⟩) [] (by decide) w
  have hi1 : ∀ w : World, (Instr.mapUpdate 45 (.map (some w.heap.size)) (.int .u8 2) (.string ⟨#[49, 48, 51]⟩)).run Tryd.prog (mapW (Value.int .u8) w [(1, .string ⟨#[49, 48, 49]⟩)]) = .ok () (mapW (Value.int .u8) w [(1, .string ⟨#[49, 48, 49]⟩), (2, .string ⟨#[49, 48, 51]⟩)]) := fun w => run_insertW (keyAs_int .u8) Tryd.underlying45 Tryd.underlying5 (2 : Int) (.string ⟨#[49, 48, 51]⟩) [(1, .string ⟨#[49, 48, 49]⟩)] (by decide) w
  have hi2 : ∀ w : World, (Instr.mapUpdate 45 (.map (some w.heap.size)) (.int .u8 3) (.string ⟨#[50, 48, 50]⟩)).run Tryd.prog (mapW (Value.int .u8) w [(1, .string ⟨#[49, 48, 49]⟩), (2, .string ⟨#[49, 48, 51]⟩)]) = .ok () (mapW (Value.int .u8) w [(1, .string ⟨#[49, 48, 49]⟩), (2, .string ⟨#[49, 48, 51]⟩), (3, .string ⟨#[50, 48, 50]⟩)]) := fun w => run_insertW (keyAs_int .u8) Tryd.underlying45 Tryd.underlying5 (3 : Int) (.string ⟨#[50, 48, 50]⟩) [(1, .string ⟨#[49, 48, 49]⟩), (2, .string ⟨#[49, 48, 51]⟩)] (by decide) w
  have hi3 : ∀ w : World, (Instr.mapUpdate 45 (.map (some w.heap.size)) (.int .u8 4) (.string ⟨#[57, 52, 48]⟩)).run Tryd.prog (mapW (Value.int .u8) w [(1, .string ⟨#[49, 48, 49]⟩), (2, .string ⟨#[49, 48, 51]⟩), (3, .string ⟨#[50, 48, 50]⟩)]) = .ok () (mapW (Value.int .u8) w [(1, .string ⟨#[49, 48, 49]⟩), (2, .string ⟨#[49, 48, 51]⟩), (3, .string ⟨#[50, 48, 50]⟩), (4, .string ⟨#[57, 52, 48]⟩)]) := fun w => run_insertW (keyAs_int .u8) Tryd.underlying45 Tryd.underlying5 (4 : Int) (.string ⟨#[57, 52, 48]⟩) [(1, .string ⟨#[49, 48, 49]⟩), (2, .string ⟨#[49, 48, 51]⟩), (3, .string ⟨#[50, 48, 50]⟩)] (by decide) w
  have hl : (Instr.lookup 45 (.map (some w.heap.size)) (.int .u8 k) false).run Tryd.prog (mapW (Value.int .u8) w [(1, .string ⟨#[49, 48, 49]⟩), (2, .string ⟨#[49, 48, 51]⟩), (3, .string ⟨#[50, 48, 50]⟩), (4, .string ⟨#[57, 52, 48]⟩)]) = .ok (.string (numB k)) (mapW (Value.int .u8) w [(1, .string ⟨#[49, 48, 49]⟩), (2, .string ⟨#[49, 48, 51]⟩), (3, .string ⟨#[50, 48, 50]⟩), (4, .string ⟨#[57, 52, 48]⟩)]) := by
    have := run_lookup (keyAs_int .u8) Tryd.underlying45 Tryd.underlying5 k numsL 4 (.string ⟨#[]⟩) (fun w => Tryd.zeroValue9 w) (mapW (Value.int .u8) w numsL) w.heap.size (mapW_at w numsL)
    rw [mget_nums] at this
    exact this
  go_enter Tryd.func22, Tryd.ntmps22
  go_wp2_with fail
  go_ret
  exact ⟨rfl, mapW_below (Below.refl _ _) (Nat.le_refl _) _⟩
def leafS (nm : ByteArray) (least : Int) (lf : ByteArray) : S24 := ⟨nm, least, 1, lf, [], false⟩
theorem leaf_any (nm lf : ByteArray) (least : Int) (w : World) : Calls Tryd.prog 23 #[.string nm, .int .i64 least, .string lf] w fun e w' => e = .returned (specV (leafS nm least lf) (.slice none 0 0)) ∧ Below w.heap.size w w' := by
  have hu24 := Tryd.underlying24
  have hb := below_alloc (Below.refl w.heap.size w) (.cells (specC (leafS nm least lf) (.slice none 0 0)) 24)
  have hX := Sbox.new w (leafS nm least lf) (.slice none 0 0)
  unfold specC leafS at hb hX
  go_enter Tryd.func23, Tryd.ntmps23
  go_wp2_with fail
  refine bodyPost_ret (results_cell_row rfl _ _ w.heap.size 24 (specC (leafS nm least lf) (.slice none 0 0)) (0, 0) _ rfl hX Tryd.underlying24 rfl (by kernel_rfl)) rfl ?_
  exact ⟨rfl, hb⟩
/-- The words one by one. -/
def foldT : St → List ByteArray → Option St
  | st, [] => some st
  | st, x :: l => (takeT st x).bind fun s => foldT s l
theorem foldT_append (st : St) (l m : List ByteArray) : foldT st (l ++ m) = (foldT st l).bind fun s => foldT s m := by
  induction l generalizing st with
  | nil => rfl
  | cons x l ih =>
    show (takeT st x).bind _ = ((takeT st x).bind _).bind _
    cases takeT st x with
    | none => rfl
    | some s => exact ih s
def leaves3 : List S24 := [leafS ⟨#[83, 101, 110, 100, 101, 114]⟩ 1 ⟨#[97, 100, 100, 114, 101, 115, 115]⟩, leafS ⟨#[82, 101, 99, 101, 105, 118, 101, 114]⟩ 1 ⟨#[97, 100, 100, 114, 101, 115, 115]⟩, leafS ⟨#[85, 69, 84, 82]⟩ 0 ⟨#[117, 101, 116, 114]⟩]
def root0 (k : Int) : S24 := ⟨(⟨#[77, 84]⟩ : ByteArray) ++ numB k, 1, 1, ⟨#[]⟩, leaves3, false⟩
def st0 (k : Int) : St := ⟨false, none, none, root0 k⟩
def finS (k : Int) : Option St := foldT (st0 k) (fieldsB (wordB k))
/-- A kind's table. -/
def tabS (k : Int) : S24 := match finS k with | some st => st.root | none => z24
theorem fin_some (k : Int) (h : k = 1 ∨ k = 2 ∨ k = 3 ∨ k = 4) : ∃ st, finS k = some st ∧ st.root = tabS k := by
  have hs : (finS k).isSome = true := by rcases h with rfl | rfl | rfl | rfl <;> kernel_rfl
  cases hf : finS k with
  | none => rw [hf] at hs; cases hs
  | some st => exact ⟨st, rfl, by unfold tabS; rw [hf]⟩
def tokOk (x : ByteArray) : Bool := decide (x.size ≤ 1000) && (match Lib.atoiAll x.data.toList with | .range => false | _ => true)
theorem toks_ok (k : Int) (h : k = 1 ∨ k = 2 ∨ k = 3 ∨ k = 4) : (fieldsB (wordB k)).all tokOk = true ∧ (fieldsB (wordB k)).length ≤ 100 ∧ (wordB k).size ≤ 1000000 ∧ (wordB k).data.toList.all (fun c => decide (c.toNat < 128)) = true := by
  rcases h with rfl | rfl | rfl | rfl <;> exact ⟨by kernel_rfl, Nat.le_of_ble_eq_true (by kernel_rfl), Nat.le_of_ble_eq_true (by kernel_rfl), by kernel_rfl⟩
theorem tok_of (x : ByteArray) (h : tokOk x = true) : x.size ≤ 1000 ∧ Lib.atoiAll x.data.toList ≠ .range := by
  unfold tokOk at h
  rw [Bool.and_eq_true] at h
  refine ⟨of_decide_eq_true h.1, fun e => ?_⟩
  rw [e] at h
  cases h.2
/-- How many parts there are. -/
def Few (n : Nat) (st : St) : Prop := st.root.f4.length ≤ n ∧ ∀ g, st.grp = some g → g.f4.length ≤ n
theorem few_take {n : Nat} {st st' : St} {x : ByteArray} (h : Few n st) (ht : takeT st x = some st') : Few (n + 1) st' := by
  obtain ⟨h1, h2⟩ := h
  unfold takeT at ht
  have hput : ∀ s, putT st s = some st' → Few (n + 1) st' := by
    intro s hp
    unfold putT at hp
    split at hp
    · cases hg : st.grp with
      | none => rw [hg] at hp; cases hp
      | some g =>
        rw [hg] at hp
        cases hp
        refine ⟨by show st.root.f4.length ≤ n + 1; omega, fun g' hg' => ?_⟩
        cases hg'
        have := h2 g hg
        simp [snocT]
        omega
    · cases hp
      exact ⟨by simp [snocT]; omega, fun g hg => by have := h2 g hg; omega⟩
  split at ht
  · cases ht
    exact ⟨by show st.root.f4.length ≤ n + 1; omega, fun g hg => by have := h2 g hg; omega⟩
  · split at ht
    · cases ht
      exact ⟨by show st.root.f4.length ≤ n + 1; omega, fun g hg => by have := h2 g hg; omega⟩
    · split at ht
      · cases ht
        exact ⟨by show st.root.f4.length ≤ n + 1; omega, fun g hg => by have := h2 g hg; omega⟩
      · split at ht
        · cases ht
        · cases hg : st.grp with
          | none => rw [hg] at ht; cases ht
          | some g =>
            rw [hg] at ht
            cases ht
            exact ⟨by simp [snocT]; omega, fun g' hg' => by cases hg'⟩
      · cases ht
      · split at ht
        · exact hput _ ht
        · cases ht
          exact ⟨by show st.root.f4.length ≤ n + 1; omega, fun g hg => by cases hg; simp⟩
theorem few_fold {n : Nat} {st st' : St} {l : List ByteArray} (h : Few n st) (ht : foldT st l = some st') : Few (n + l.length) st' := by
  induction l generalizing n st with
  | nil => cases ht; exact h
  | cons x l ih =>
    unfold foldT at ht
    cases hx : takeT st x with
    | none => rw [hx] at ht; cases ht
    | some s =>
      rw [hx] at ht
      have := ih (few_take h hx) ht
      rw [show n + (x :: l).length = n + 1 + l.length by simp; omega]
      exact this
end Go.Proofs.YtepphihcggppbaaDoor.A
