/- The facts on the types of this translation that the value layer asks; no condition. -/
import Derived.Test.YtkekjlgidlbbcaaProg
import Derived.Test.YtkekjlgidlbbcaaWa
namespace Go.Proofs.Ytkekjlgidlbbcaa
instance : BuT Try.prog 24 [.slice none 0 0] := ⟨by kernel_rfl, by kernel_rfl, rfl⟩
instance : ElT Try.prog (Try.prog.elem 22) (.slice none 0 0) 24 := ⟨by kernel_rfl, rfl, rfl⟩
instance : ElT Try.prog (Try.prog.elem 32) (.int .i64 0) 8 := ⟨by kernel_rfl, rfl, rfl⟩
instance : ElT Try.prog (Try.prog.elem 64) (.bool false) 1 := ⟨by kernel_rfl, rfl, rfl⟩
instance : FaT Try.prog 24 0 0 := ⟨by kernel_rfl⟩
instance : FaT Try.prog 38 0 0 := ⟨by kernel_rfl⟩
instance : FaT Try.prog 42 0 0 := ⟨by kernel_rfl⟩
instance : PlT Try.prog 2 := ⟨by kernel_rfl⟩
instance : PlT Try.prog 22 := ⟨by kernel_rfl⟩
instance : PlT Try.prog 3 := ⟨by kernel_rfl⟩
instance : PlT Try.prog 32 := ⟨by kernel_rfl⟩
instance : PlT Try.prog 4 := ⟨by kernel_rfl⟩
instance : PlT Try.prog 50 := ⟨by kernel_rfl⟩
instance : SlT Try.prog 22 := ⟨by kernel_rfl, by kernel_rfl⟩
instance : SlT Try.prog 32 := ⟨by kernel_rfl, by kernel_rfl⟩
instance : SlT Try.prog 64 := ⟨by kernel_rfl, by kernel_rfl⟩
instance : StT Try.prog 24 1 := ⟨by kernel_rfl, by kernel_rfl⟩
instance : StT Try.prog 38 1 := ⟨by kernel_rfl, by kernel_rfl⟩
instance : StT Try.prog 42 1 := ⟨by kernel_rfl, by kernel_rfl⟩
instance : SzT Try.prog 2 1 := ⟨by kernel_rfl⟩
instance : SzT Try.prog 22 1 := ⟨by kernel_rfl⟩
instance : SzT Try.prog 24 1 := ⟨by kernel_rfl⟩
instance : SzT Try.prog 3 1 := ⟨by kernel_rfl⟩
instance : SzT Try.prog 32 1 := ⟨by kernel_rfl⟩
instance : SzT Try.prog 38 1 := ⟨by kernel_rfl⟩
instance : SzT Try.prog 4 1 := ⟨by kernel_rfl⟩
instance : SzT Try.prog 42 1 := ⟨by kernel_rfl⟩
instance : SzT Try.prog 50 1 := ⟨by kernel_rfl⟩
instance : ZeT Try.prog 2 [.int .i64 0] := ⟨by kernel_rfl, rfl⟩
instance : ZeT Try.prog 24 [.slice none 0 0] := ⟨by kernel_rfl, rfl⟩
instance : ZeT Try.prog 3 [.int .i64 0] := ⟨by kernel_rfl, rfl⟩
instance : ZeT Try.prog 42 [.slice none 0 0] := ⟨by kernel_rfl, rfl⟩
theorem mixed : Go.Proofs.Try.prog.follows .mixedOrders = true := by kernel_rfl
end Go.Proofs.Ytkekjlgidlbbcaa
