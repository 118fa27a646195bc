/-
  Operations of a region by their place.
-/
import Derived.Test.YtjldgieffkemlaaGreatDoorBase0
namespace Go.Proofs.YtjldgieffkemlaaGreatDoor
set_option linter.unusedVariables false
set_option linter.unusedSimpArgs false
theorem opAt0 {o : Oper} {l : List Oper} : (o :: l).toArray[0]? = some o := by simp
theorem opAtS {o p : Oper} {l : List Oper} {n : Nat} (h : l.toArray[n]? = some p) : (o :: l).toArray[n + 1]? = some p := by simpa using h
end Go.Proofs.YtjldgieffkemlaaGreatDoor
