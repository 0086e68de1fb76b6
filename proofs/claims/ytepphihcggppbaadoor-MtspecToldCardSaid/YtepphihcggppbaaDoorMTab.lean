/- mtspec.Table, Number, Kind: as the print asks for them. -/
import Derived.Test.YtepphihcggppbaaDoorKn
set_option linter.unusedVariables false
set_option linter.unusedSimpArgs false
namespace Go.Proofs.YtepphihcggppbaaDoor.A
open Go.RowKit Go.Proofs.YtepphihcggppbaaDoorW.PrintWords Go.Proofs.YtepphihcggppbaaDoorW.PrintLast Go.Proofs.YtepphihcggppbaaDoorW.PrintMore

def mtspec_Table.f (k : Int) : Option (ByteArray × Int × Int × ByteArray × List S24 × Bool × Bool) := if 1 ≤ k ∧ k ≤ 4 then some ((tabS k).f0, (tabS k).f1, (tabS k).f2, (tabS k).f3, (tabS k).f4, (tabS k).f5, true) else none
theorem mtspec_Table.calls (a0 : Int) (r1 : ByteArray) (r2 r3 : Int) (r4 : ByteArray) (r5 : List S24) (r6 r7 : Bool) (w : World) (h : mtspec_Table.f a0 = some (r1, r2, r3, r4, r5, r6, r7)) (hG : Glob w) :
    Calls Tryd.prog 6 #[.int .u8 a0] w fun e w' => ∃ v0_ : Value, e = .returned (.tuple #[.agg #[.string r1, .int .i64 r2, .int .i64 r3, .string r4, v0_, .bool r6], .bool r7]) ∧ Kd.R k24 24 w' w.heap.size (fun _ => True) v0_ r5 ∧ Below w.heap.size w w' := by
  unfold mtspec_Table.f at h
  by_cases hk : 1 ≤ a0 ∧ a0 ≤ 4
  · rw [if_pos hk] at h
    injection h with h
    injection h with h1 h
    injection h with h2 h
    injection h with h3 h
    injection h with h4 h
    injection h with h5 h
    injection h with h6 h7
    subst h1 h2 h3 h4 h5 h6 h7
    exact table_any a0 (by omega) w hG
  · rw [if_neg hk] at h
    cases h
def mtspec_Number.f (k : Int) : Option ByteArray := some (numB k)
theorem mtspec_Number.calls (a0 : Int) (r : ByteArray) (w : World) (h : mtspec_Number.f a0 = some r) : Calls Tryd.prog 22 #[.int .u8 a0] w fun e w' => e = .returned (.string r) ∧ Below w.heap.size w w' := by
  injection h with h
  subst h
  exact number_any a0 w
def mtspec_Kind.f (n : ByteArray) : Option (Int × Bool) := some (kindT n)
theorem mtspec_Kind.calls (a0 : ByteArray) (r1 : Int) (r2 : Bool) (w : World) (h : mtspec_Kind.f a0 = some (r1, r2)) (hG : Glob w) : Calls Tryd.prog 30 #[.string a0] w fun e w' => e = .returned (.tuple #[.int .u8 r1, .bool r2]) ∧ Below w.heap.size w w' := by
  injection h with h
  have h1 : (kindT a0).1 = r1 := by rw [h]
  have h2 : (kindT a0).2 = r2 := by rw [h]
  subst h1 h2
  exact kind_any a0 w
end Go.Proofs.YtepphihcggppbaaDoor.A
