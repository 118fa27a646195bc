/-
  Layer 9: what awake makes of its file system, step by step.
-/
import Derived.Test.YtcicjklhbnipcaaGreatDoorFsB
import Derived.KernelRfl
namespace Go.Proofs.YtcicjklhbnipcaaGreatDoor
set_option linter.unusedVariables false
set_option linter.unusedSimpArgs false
namespace Aw
def bs (l : List UInt8) : ByteArray := ⟨l.toArray⟩
def o1 : OpD := ⟨3, ⟨#[97]⟩, ⟨#[]⟩, 0, 0, 0, ⟨#[]⟩, 0, 0⟩
def o2 : OpD := ⟨7, ⟨#[]⟩, ⟨#[]⟩, 1, 0, 0, ⟨#[120, 121]⟩, 0, 0⟩
def o3 : OpD := ⟨11, ⟨#[97]⟩, ⟨#[]⟩, 0, 0, 0, ⟨#[]⟩, 0, 0⟩
def o4 : OpD := ⟨6, ⟨#[]⟩, ⟨#[]⟩, 1, 1, 9, ⟨#[]⟩, 0, 0⟩
def o5 : OpD := ⟨6, ⟨#[]⟩, ⟨#[]⟩, 1, 0, 1, ⟨#[]⟩, 0, 0⟩
def o6 : OpD := ⟨1, ⟨#[100]⟩, ⟨#[]⟩, 0, 0, 0, ⟨#[]⟩, 0, 0⟩
def s1 : FsD := ⟨⟨4096, 128, 2, [⟨1, true, 1, 0, ⟨#[]⟩, [(⟨#[97]⟩, 2)]⟩, ⟨2, false, 1, 1, ⟨#[]⟩, []⟩]⟩, [(1, [0, 2, 0, 0, 0, 0, 0, 0, 0])]⟩
def s2 : FsD := ⟨⟨4096, 130, 2, [⟨1, true, 1, 0, ⟨#[]⟩, [(⟨#[97]⟩, 2)]⟩, ⟨2, false, 1, 1, ⟨#[120, 121]⟩, []⟩]⟩, [(1, [0, 2, 0, 0, 0, 0, 0, 0, 0])]⟩
def s3 : FsD := ⟨⟨4096, 130, 2, [⟨1, true, 1, 0, ⟨#[]⟩, []⟩, ⟨2, false, 0, 1, ⟨#[120, 121]⟩, []⟩]⟩, [(1, [0, 2, 0, 0, 0, 0, 0, 0, 0])]⟩
def s6 : FsD := ⟨⟨4096, 194, 3, [⟨1, true, 1, 0, ⟨#[]⟩, [(⟨#[100]⟩, 3)]⟩, ⟨2, false, 0, 1, ⟨#[120, 121]⟩, []⟩, ⟨3, true, 1, 0, ⟨#[]⟩, []⟩]⟩, [(1, [0, 2, 0, 0, 0, 0, 0, 0, 0])]⟩
theorem d1 : Fs.do_ (Fs.new 4096) 1 o1 = (⟨0, 1, ⟨#[]⟩, []⟩, s1) := by kernel_rfl
theorem d2 : Fs.do_ s1 1 o2 = (⟨0, 0, ⟨#[]⟩, []⟩, s2) := by kernel_rfl
theorem d3 : Fs.do_ s2 1 o3 = (⟨0, 0, ⟨#[]⟩, []⟩, s3) := by kernel_rfl
theorem d4 : Fs.do_ s3 1 o4 = (⟨0, 0, ⟨#[121]⟩, []⟩, s3) := by kernel_rfl
theorem d5 : Fs.do_ s3 2 o5 = (⟨13, 0, ⟨#[]⟩, []⟩, s3) := by kernel_rfl
theorem d6 : Fs.do_ s3 2 o6 = (⟨0, 0, ⟨#[]⟩, []⟩, s6) := by kernel_rfl
end Aw
end Go.Proofs.YtcicjklhbnipcaaGreatDoor
