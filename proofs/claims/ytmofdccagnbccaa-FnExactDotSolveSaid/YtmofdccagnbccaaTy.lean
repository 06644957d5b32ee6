/- The facts on the types of this translation that the value layer asks; no condition. -/
import Derived.Test.YtmofdccagnbccaaProg
import Derived.Test.YtmofdccagnbccaaWa
namespace Go.Proofs.Ytmofdccagnbccaa
instance : BoT Try.prog 4 := ⟨by kernel_rfl⟩
set_option maxRecDepth 100000 in
instance : BuT Try.prog 24 [.slice none 0 0] := ⟨by kernel_rfl, by kernel_rfl, rfl⟩
set_option maxRecDepth 100000 in
instance : BuT Try.prog 98 [.slice none 0 0, .int .i64 0, .int .u64 0] := ⟨by kernel_rfl, by kernel_rfl, rfl⟩
set_option maxRecDepth 100000 in
instance : ElT Try.prog (Try.prog.elem 106) (.bool false) 1 := ⟨by kernel_rfl, rfl, rfl⟩
set_option maxRecDepth 100000 in
instance : ElT Try.prog (Try.prog.elem 22) (.slice none 0 0) 24 := ⟨by kernel_rfl, rfl, rfl⟩
set_option maxRecDepth 100000 in
instance : ElT Try.prog (Try.prog.elem 32) (.int .i64 0) 8 := ⟨by kernel_rfl, rfl, rfl⟩
set_option maxRecDepth 100000 in
instance : ElT Try.prog (Try.prog.elem 47) (.int .u8 0) 1 := ⟨by kernel_rfl, rfl, rfl⟩
instance : FaT Try.prog 24 0 0 := ⟨by kernel_rfl⟩
instance : FaT Try.prog 38 0 0 := ⟨by kernel_rfl⟩
instance : FaT Try.prog 42 0 0 := ⟨by kernel_rfl⟩
instance : FaT Try.prog 60 0 0 := ⟨by kernel_rfl⟩
instance : FaT Try.prog 98 0 0 := ⟨by kernel_rfl⟩
instance : FaT Try.prog 98 1 1 := ⟨by kernel_rfl⟩
instance : FaT Try.prog 98 2 2 := ⟨by kernel_rfl⟩
instance : IntT Try.prog 118 .u32 := ⟨by kernel_rfl⟩
instance : IntT Try.prog 120 .u64 := ⟨by kernel_rfl⟩
instance : IntT Try.prog 2 .i64 := ⟨by kernel_rfl⟩
instance : IntT Try.prog 3 .i64 := ⟨by kernel_rfl⟩
instance : IntT Try.prog 5 .u8 := ⟨by kernel_rfl⟩
instance : IntT Try.prog 96 .u64 := ⟨by kernel_rfl⟩
instance : IntT Try.prog 99 .u64 := ⟨by kernel_rfl⟩
instance : PlT Try.prog 120 := ⟨by kernel_rfl⟩
instance : PlT Try.prog 2 := ⟨by kernel_rfl⟩
instance : PlT Try.prog 22 := ⟨by kernel_rfl⟩
instance : PlT Try.prog 3 := ⟨by kernel_rfl⟩
instance : PlT Try.prog 32 := ⟨by kernel_rfl⟩
instance : PlT Try.prog 4 := ⟨by kernel_rfl⟩
instance : PlT Try.prog 47 := ⟨by kernel_rfl⟩
instance : PlT Try.prog 5 := ⟨by kernel_rfl⟩
instance : PlT Try.prog 68 := ⟨by kernel_rfl⟩
instance : PlT Try.prog 96 := ⟨by kernel_rfl⟩
instance : SlT Try.prog 106 := ⟨by kernel_rfl, by kernel_rfl⟩
instance : SlT Try.prog 22 := ⟨by kernel_rfl, by kernel_rfl⟩
instance : SlT Try.prog 32 := ⟨by kernel_rfl, by kernel_rfl⟩
instance : SlT Try.prog 47 := ⟨by kernel_rfl, by kernel_rfl⟩
instance : StT Try.prog 24 1 := ⟨by kernel_rfl, by kernel_rfl⟩
instance : StT Try.prog 38 1 := ⟨by kernel_rfl, by kernel_rfl⟩
instance : StT Try.prog 42 1 := ⟨by kernel_rfl, by kernel_rfl⟩
instance : StT Try.prog 60 1 := ⟨by kernel_rfl, by kernel_rfl⟩
instance : StT Try.prog 98 3 := ⟨by kernel_rfl, by kernel_rfl⟩
instance : StrT Try.prog 9 := ⟨by kernel_rfl⟩
instance : SzT Try.prog 120 1 := ⟨by kernel_rfl⟩
instance : SzT Try.prog 2 1 := ⟨by kernel_rfl⟩
instance : SzT Try.prog 22 1 := ⟨by kernel_rfl⟩
instance : SzT Try.prog 24 1 := ⟨by kernel_rfl⟩
instance : SzT Try.prog 3 1 := ⟨by kernel_rfl⟩
instance : SzT Try.prog 32 1 := ⟨by kernel_rfl⟩
instance : SzT Try.prog 38 1 := ⟨by kernel_rfl⟩
instance : SzT Try.prog 4 1 := ⟨by kernel_rfl⟩
instance : SzT Try.prog 42 1 := ⟨by kernel_rfl⟩
instance : SzT Try.prog 47 1 := ⟨by kernel_rfl⟩
instance : SzT Try.prog 5 1 := ⟨by kernel_rfl⟩
instance : SzT Try.prog 60 1 := ⟨by kernel_rfl⟩
instance : SzT Try.prog 68 1 := ⟨by kernel_rfl⟩
instance : SzT Try.prog 96 1 := ⟨by kernel_rfl⟩
instance : SzT Try.prog 98 3 := ⟨by kernel_rfl⟩
instance : ZeT Try.prog 120 [.int .u64 0] := ⟨by kernel_rfl, rfl⟩
instance : ZeT Try.prog 2 [.int .i64 0] := ⟨by kernel_rfl, rfl⟩
instance : ZeT Try.prog 22 [.slice none 0 0] := ⟨by kernel_rfl, rfl⟩
instance : ZeT Try.prog 24 [.slice none 0 0] := ⟨by kernel_rfl, rfl⟩
instance : ZeT Try.prog 3 [.int .i64 0] := ⟨by kernel_rfl, rfl⟩
instance : ZeT Try.prog 32 [.slice none 0 0] := ⟨by kernel_rfl, rfl⟩
instance : ZeT Try.prog 42 [.slice none 0 0] := ⟨by kernel_rfl, rfl⟩
theorem mixed : Go.Proofs.Try.prog.follows .mixedOrders = true := by kernel_rfl
end Go.Proofs.Ytmofdccagnbccaa
