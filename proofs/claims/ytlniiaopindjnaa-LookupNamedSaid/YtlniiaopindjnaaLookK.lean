/-
  What layer 18's awake asks for, reckoned. Plain.
-/
import Derived.Test.YtlniiaopindjnaaFreeP
import Derived.Test.YtlniiaopindjnaaTextP
import Derived.KernelRfl
namespace Go.Proofs.Ytlniiaopindjnaa
set_option linter.unusedVariables false
namespace Lk
def two : List NamedD := [⟨⟨#[48, 48, 48, 48, 48, 97]⟩, [⟨#[120]⟩]⟩, ⟨⟨#[48, 48, 48, 48, 98, 48]⟩, []⟩]
theorem two_x : meant two ⟨#[120]⟩ = (⟨#[48, 48, 48, 48, 48, 97]⟩, 0) := by kernel_rfl
theorem two_b : meant two ⟨#[48, 48, 48, 48, 98]⟩ = (⟨#[48, 48, 48, 48, 98, 48]⟩, 0) := by kernel_rfl
theorem two_0 : meant two ⟨#[48, 48, 48, 48]⟩ = (⟨#[]⟩, 9) := by kernel_rfl
theorem two_y : meant two ⟨#[121]⟩ = (⟨#[]⟩, 3) := by kernel_rfl
theorem two_10 : fresh two 10 = (⟨#[48, 48, 48, 48, 48, 98]⟩, 0) := by kernel_rfl
theorem two_lines : lines two = [48, 48, 48, 48, 48, 97, 32, 120, 10, 48, 48, 48, 48, 98, 48, 10] := by kernel_rfl
theorem two_few : FewN two := ⟨by decide, by decide⟩
end Lk
end Go.Proofs.Ytlniiaopindjnaa
