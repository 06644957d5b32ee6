/- The facts on the types of this translation that the value layer asks; no condition. -/
import Derived.Test.YtfpkpefokcphpaaProg
import Derived.Test.YtfpkpefokcphpaaWo
namespace Go.Proofs.Ytfpkpefokcphpaa
set_option maxRecDepth 100000 in
instance : BuT Try.prog 28 [.slice none 0 0] := ⟨by kernel_rfl, by kernel_rfl, rfl⟩
set_option maxRecDepth 100000 in
instance : BuT Try.prog 64 [.slice none 0 0, .slice none 0 0] := ⟨by kernel_rfl, by kernel_rfl, rfl⟩
set_option maxRecDepth 100000 in
instance : BuT Try.prog 84 [.slice none 0 0, .slice none 0 0, .slice none 0 0, .slice none 0 0, .slice none 0 0] := ⟨by kernel_rfl, by kernel_rfl, rfl⟩
instance : ByT Try.prog 104 := ⟨by kernel_rfl, by kernel_rfl⟩
set_option maxRecDepth 100000 in
instance : ElT Try.prog (Try.prog.elem 104) (.int .u8 0) 1 := ⟨by kernel_rfl, rfl, rfl⟩
set_option maxRecDepth 100000 in
instance : ElT Try.prog (Try.prog.elem 22) (.slice none 0 0) 24 := ⟨by kernel_rfl, rfl, rfl⟩
set_option maxRecDepth 100000 in
instance : ElT Try.prog (Try.prog.elem 32) (.int .i64 0) 8 := ⟨by kernel_rfl, rfl, rfl⟩
set_option maxRecDepth 100000 in
instance : ElT Try.prog (Try.prog.elem 58) (.slice none 0 0) 24 := ⟨by kernel_rfl, rfl, rfl⟩
set_option maxRecDepth 100000 in
instance : ElT Try.prog (Try.prog.elem 82) (.bool false) 1 := ⟨by kernel_rfl, rfl, rfl⟩
instance : FaT Try.prog 24 0 0 := ⟨by kernel_rfl⟩
instance : FaT Try.prog 28 0 0 := ⟨by kernel_rfl⟩
instance : FaT Try.prog 39 0 0 := ⟨by kernel_rfl⟩
instance : FaT Try.prog 42 0 0 := ⟨by kernel_rfl⟩
instance : FaT Try.prog 64 0 0 := ⟨by kernel_rfl⟩
instance : FaT Try.prog 64 1 1 := ⟨by kernel_rfl⟩
instance : FaT Try.prog 84 0 0 := ⟨by kernel_rfl⟩
instance : FaT Try.prog 84 1 1 := ⟨by kernel_rfl⟩
instance : FaT Try.prog 84 2 2 := ⟨by kernel_rfl⟩
instance : FaT Try.prog 84 3 3 := ⟨by kernel_rfl⟩
instance : FaT Try.prog 84 4 4 := ⟨by kernel_rfl⟩
instance : IntT Try.prog 120 .u32 := ⟨by kernel_rfl⟩
instance : IntT Try.prog 122 .u64 := ⟨by kernel_rfl⟩
instance : IntT Try.prog 126 .u64 := ⟨by kernel_rfl⟩
instance : IntT Try.prog 3 .i64 := ⟨by kernel_rfl⟩
instance : IntT Try.prog 5 .u8 := ⟨by kernel_rfl⟩
instance : IntT Try.prog 98 .u64 := ⟨by kernel_rfl⟩
instance : PlT Try.prog 101 := ⟨by kernel_rfl⟩
instance : PlT Try.prog 126 := ⟨by kernel_rfl⟩
instance : PlT Try.prog 2 := ⟨by kernel_rfl⟩
instance : PlT Try.prog 22 := ⟨by kernel_rfl⟩
instance : PlT Try.prog 3 := ⟨by kernel_rfl⟩
instance : PlT Try.prog 32 := ⟨by kernel_rfl⟩
instance : PlT Try.prog 4 := ⟨by kernel_rfl⟩
instance : PlT Try.prog 5 := ⟨by kernel_rfl⟩
instance : PlT Try.prog 58 := ⟨by kernel_rfl⟩
instance : PlT Try.prog 82 := ⟨by kernel_rfl⟩
instance : SlT Try.prog 104 := ⟨by kernel_rfl, by kernel_rfl⟩
instance : SlT Try.prog 22 := ⟨by kernel_rfl, by kernel_rfl⟩
instance : SlT Try.prog 32 := ⟨by kernel_rfl, by kernel_rfl⟩
instance : SlT Try.prog 58 := ⟨by kernel_rfl, by kernel_rfl⟩
instance : SlT Try.prog 82 := ⟨by kernel_rfl, by kernel_rfl⟩
instance : StT Try.prog 24 1 := ⟨by kernel_rfl, by kernel_rfl⟩
instance : StT Try.prog 28 1 := ⟨by kernel_rfl, by kernel_rfl⟩
instance : StT Try.prog 39 1 := ⟨by kernel_rfl, by kernel_rfl⟩
instance : StT Try.prog 42 1 := ⟨by kernel_rfl, by kernel_rfl⟩
instance : StT Try.prog 64 2 := ⟨by kernel_rfl, by kernel_rfl⟩
instance : StT Try.prog 84 5 := ⟨by kernel_rfl, by kernel_rfl⟩
instance : StrT Try.prog 9 := ⟨by kernel_rfl⟩
instance : SzT Try.prog 101 1 := ⟨by kernel_rfl⟩
instance : SzT Try.prog 126 1 := ⟨by kernel_rfl⟩
instance : SzT Try.prog 2 1 := ⟨by kernel_rfl⟩
instance : SzT Try.prog 22 1 := ⟨by kernel_rfl⟩
instance : SzT Try.prog 24 1 := ⟨by kernel_rfl⟩
instance : SzT Try.prog 28 1 := ⟨by kernel_rfl⟩
instance : SzT Try.prog 3 1 := ⟨by kernel_rfl⟩
instance : SzT Try.prog 32 1 := ⟨by kernel_rfl⟩
instance : SzT Try.prog 39 1 := ⟨by kernel_rfl⟩
instance : SzT Try.prog 4 1 := ⟨by kernel_rfl⟩
instance : SzT Try.prog 42 1 := ⟨by kernel_rfl⟩
instance : SzT Try.prog 5 1 := ⟨by kernel_rfl⟩
instance : SzT Try.prog 58 1 := ⟨by kernel_rfl⟩
instance : SzT Try.prog 64 2 := ⟨by kernel_rfl⟩
instance : SzT Try.prog 82 1 := ⟨by kernel_rfl⟩
instance : SzT Try.prog 84 5 := ⟨by kernel_rfl⟩
instance : ZeT Try.prog 126 [.int .u64 0] := ⟨by kernel_rfl, rfl⟩
instance : ZeT Try.prog 2 [.int .i64 0] := ⟨by kernel_rfl, rfl⟩
instance : ZeT Try.prog 22 [.slice none 0 0] := ⟨by kernel_rfl, rfl⟩
instance : ZeT Try.prog 28 [.slice none 0 0] := ⟨by kernel_rfl, rfl⟩
instance : ZeT Try.prog 3 [.int .i64 0] := ⟨by kernel_rfl, rfl⟩
instance : ZeT Try.prog 32 [.slice none 0 0] := ⟨by kernel_rfl, rfl⟩
instance : ZeT Try.prog 42 [.slice none 0 0] := ⟨by kernel_rfl, rfl⟩
instance : ZeT Try.prog 64 [.slice none 0 0, .slice none 0 0] := ⟨by kernel_rfl, rfl⟩
instance : ZeT Try.prog 84 [.slice none 0 0, .slice none 0 0, .slice none 0 0, .slice none 0 0, .slice none 0 0] := ⟨by kernel_rfl, rfl⟩
theorem mixed : Go.Proofs.Try.prog.follows .mixedOrders = true := by kernel_rfl
end Go.Proofs.Ytfpkpefokcphpaa
