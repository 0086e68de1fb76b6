/- Tree, in plain Lean: the program's builder, run over tokens, comes to what the document's descent tells. -/
import Derived.Test.YtknfpggiigncpaaGreatDoorTr5
set_option linter.unusedVariables false
set_option linter.unusedSimpArgs false
namespace Go.Proofs.YtknfpggiigncpaaGreatDoor.T
open Go.RowKit Go.Proofs.YtknfpggiigncpaaGreatDoor.P Go.Proofs.YtknfpggiigncpaaGreatDoor.E

/-- A token, taken by the builder. -/
def tokT (S : Bst) (t : C.S44) : Bst × Int :=
  if t.f0 = 1 then openT S t else if t.f0 = 2 then closeT S t.f1 else sayT S t.f2
/-- Tokens, taken one by one. -/
def runT : Bst → List C.S44 → Except (Int × Int) Bst
  | S, [] => .ok S
  | S, t :: l => if (tokT S t).2 = 0 then runT (tokT S t).1 l else .error (t.f5, (tokT S t).2)
/-- What a tree's reading comes to: the space, the tree, a place, an error. -/
structure Got where
  space : ByteArray
  root : S24
  at_ : Int
  err : Int
def badG (a e : Int) : Got := ⟨⟨#[]⟩, z24, a, e⟩
def finT (n : Int) : Except (Int × Int) Bst → Got
  | .error (a, e) => badG a e
  | .ok S => if S.done = true then ⟨S.space, S.root, n, 0⟩ else badG n 23
def bst0 : Bst := ⟨[], z24, ⟨#[]⟩, false, 0⟩
/-- The builder, when its last element is closed. -/
def popT (S : Bst) (stk : List Nd) (v : S24) (m : Nat) : Bst :=
  match stk.getLast? with
  | none => { S with stack := [], root := v, done := true, many := m }
  | some up => { S with stack := stk.set (stk.length - 1) { up with ks := up.ks ++ [v] }, many := m }
theorem last_snoc (stk : List Nd) (nd : Nd) : (stk ++ [nd]).getLast? = some nd := by simp
theorem set_snoc (stk : List Nd) (nd nd' : Nd) : (stk ++ [nd]).set ((stk ++ [nd]).length - 1) nd' = stk ++ [nd'] := by
  rw [List.length_append, List.length_singleton, Nat.add_sub_cancel, List.set_append, if_neg (by omega), Nat.sub_self]
  rfl
theorem close_pop (S : Bst) (stk : List Nd) (nd : Nd) (name : ByteArray) (hS : S.stack = stk ++ [nd]) (hn : nd.name = name) : closeT S name = (popT S stk (valT nd) S.many, 0) := by
  unfold closeT popT
  rw [hS, last_snoc]
  simp only
  rw [if_pos hn, List.dropLast_concat]
  cases h : stk.getLast? with
  | none => rfl
  | some up => simp only [List.length_append, List.length_singleton]; rfl
end Go.Proofs.YtknfpggiigncpaaGreatDoor.T
