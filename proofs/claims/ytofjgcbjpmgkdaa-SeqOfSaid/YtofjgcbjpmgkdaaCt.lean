/- Tails of a function's body, for walks that are cut into declarations: what is left of a chain of statements from region k on. -/
import Derived.Test.YtofjgcbjpmgkdaaK
set_option linter.unusedVariables false
set_option linter.unusedSimpArgs false
set_option linter.unusedSectionVars false
namespace Go.Proofs.Ytofjgcbjpmgkdaa
open Go
def lmR : Code → Option Nat
  | .region j _ _ => some j
  | .seq a _ => lmR a
  | _ => none
def isR (k : Nat) : Option Nat → Bool
  | some j => Nat.beq j k
  | none => false
/-- The outermost chain that begins with region k. -/
def fromR (k : Nat) : Code → Option Code
  | .seq a b => match isR k (lmR a) with
    | true => some (.seq a b)
    | false => match fromR k a with
      | some c => some c
      | none => fromR k b
  | .cond _ x y => match fromR k x with
    | some c => some c
    | none => fromR k y
  | .block _ x => fromR k x
  | .loop x => fromR k x
  | .scope x => fromR k x
  | .region j ops d => match Nat.beq j k with
    | true => some (.region j ops d)
    | false => none
  | _ => none
noncomputable def tailR (f : Func) (k : Nat) : Code := ((f.body.bind (fromR k)).getD .skip)
end Go.Proofs.Ytofjgcbjpmgkdaa
