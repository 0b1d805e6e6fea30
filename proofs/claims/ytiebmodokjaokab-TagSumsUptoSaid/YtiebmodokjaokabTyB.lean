/- Array types of bytes (written by gentypes.py). -/
import Derived.Test.YtiebmodokjaokabTy
import Derived.Test.YtiebmodokjaokabEngW
namespace Go.Sl
open Go Go.Proofs
instance : TyBA Try.prog 23 32 := ⟨⟨5, by kernel_rfl, by kernel_rfl, by kernel_rfl⟩, by kernel_rfl, by kernel_rfl, by kernel_rfl⟩
instance : TyBA Try.prog 24 32 := ⟨⟨5, by kernel_rfl, by kernel_rfl, by kernel_rfl⟩, by kernel_rfl, by kernel_rfl, by kernel_rfl⟩
instance : TyBA Try.prog 27 16 := ⟨⟨5, by kernel_rfl, by kernel_rfl, by kernel_rfl⟩, by kernel_rfl, by kernel_rfl, by kernel_rfl⟩
instance : TyBA Try.prog 28 16 := ⟨⟨5, by kernel_rfl, by kernel_rfl, by kernel_rfl⟩, by kernel_rfl, by kernel_rfl, by kernel_rfl⟩
instance : TyBA Try.prog 76 8 := ⟨⟨5, by kernel_rfl, by kernel_rfl, by kernel_rfl⟩, by kernel_rfl, by kernel_rfl, by kernel_rfl⟩
end Go.Sl
