/-
  Layer 18: LookupNamed: its walk, put together.
-/
import Derived.Test.YtlniiaopindjnaaNamedB1
import Derived.Test.YtlniiaopindjnaaNamedB2
import Derived.Test.YtlniiaopindjnaaNamedB3
import Derived.Test.YtlniiaopindjnaaNamedB4
import Derived.Test.YtlniiaopindjnaaNamedG
namespace Go.Proofs.Ytlniiaopindjnaa
set_option linter.unusedVariables false
open Go.RowKit

theorem lookupNamed_walk (a : Option Addr) (n c : Nat) (xs : List NamedD) (i : Int) (na : Option Addr) (nc : Nat) (more : NamedD) (w : World) (hi1 : 0 ≤ i) (hi2 : i ≤ 255)
    (h : RNameds w w.heap.size [.slice a n c] xs) (hm : RStrs w w.heap.size [.slice na more.names.length nc] more.names) (hms : more.id.size ≤ maxLen) :
    Calls Try.prog 6 #[.slice a n c, .int .u8 i, .agg #[.string more.id, .slice na more.names.length nc]] w fun e w' => e = .returned (.bool true) ∧ Below w.heap.size w w' := by
  cases g1 : fewNB xs with
  | false => exact lookupNamed_bad1 a n c xs i na nc more w hi1 hi2 h hm hms g1
  | true =>
    by_cases g2 : xs.length = 0
    · exact lookupNamed_bad2 a n c xs i na nc more w hi1 hi2 h hm hms g1 g2
    · by_cases g3 : xs.length ≤ 30
      · cases g4 : fewNB [more] with
        | false => exact lookupNamed_bad4 a n c xs i na nc more w hi1 hi2 h hm hms g1 g2 g3 g4
        | true => exact lookupNamed_good a n c xs i na nc more w hi1 hi2 h hm hms g1 g2 g3 g4
      · exact lookupNamed_bad3 a n c xs i na nc more w hi1 hi2 h hm hms g1 g3
end Go.Proofs.Ytlniiaopindjnaa
