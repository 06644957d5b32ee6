/- The facts on the types of this translation that the value layer asks; no condition. -/
import Derived.Test.YtpcnbdjommcaoaaProg
import Derived.Test.YtpcnbdjommcaoaaWl
namespace Go.Proofs.Ytpcnbdjommcaoaa
set_option maxRecDepth 100000 in
instance : BuT Try.prog 28 [.slice none 0 0] := ⟨by kernel_rfl, by kernel_rfl, rfl⟩
set_option maxRecDepth 100000 in
instance : BuT Try.prog 34 [.slice none 0 0] := ⟨by kernel_rfl, by kernel_rfl, rfl⟩
set_option maxRecDepth 100000 in
instance : BuT Try.prog 71 [.slice none 0 0, .slice none 0 0] := ⟨by kernel_rfl, by kernel_rfl, rfl⟩
set_option maxRecDepth 100000 in
instance : BuT Try.prog 93 [.slice none 0 0, .slice none 0 0, .slice none 0 0, .slice none 0 0, .slice none 0 0] := ⟨by kernel_rfl, by kernel_rfl, rfl⟩
instance : ByT Try.prog 114 := ⟨by kernel_rfl, by kernel_rfl⟩
set_option maxRecDepth 100000 in
instance : ElT Try.prog (Try.prog.elem 114) (.int .u8 0) 1 := ⟨by kernel_rfl, rfl, rfl⟩
set_option maxRecDepth 100000 in
instance : ElT Try.prog (Try.prog.elem 22) (.slice none 0 0) 24 := ⟨by kernel_rfl, rfl, rfl⟩
set_option maxRecDepth 100000 in
instance : ElT Try.prog (Try.prog.elem 44) (.int .i64 0) 8 := ⟨by kernel_rfl, rfl, rfl⟩
set_option maxRecDepth 100000 in
instance : ElT Try.prog (Try.prog.elem 64) (.slice none 0 0) 24 := ⟨by kernel_rfl, rfl, rfl⟩
set_option maxRecDepth 100000 in
instance : ElT Try.prog (Try.prog.elem 91) (.bool false) 1 := ⟨by kernel_rfl, rfl, rfl⟩
instance : FaT Try.prog 24 0 0 := ⟨by kernel_rfl⟩
instance : FaT Try.prog 28 0 0 := ⟨by kernel_rfl⟩
instance : FaT Try.prog 32 0 0 := ⟨by kernel_rfl⟩
instance : FaT Try.prog 34 0 0 := ⟨by kernel_rfl⟩
instance : FaT Try.prog 71 0 0 := ⟨by kernel_rfl⟩
instance : FaT Try.prog 71 1 1 := ⟨by kernel_rfl⟩
instance : FaT Try.prog 93 0 0 := ⟨by kernel_rfl⟩
instance : FaT Try.prog 93 1 1 := ⟨by kernel_rfl⟩
instance : FaT Try.prog 93 2 2 := ⟨by kernel_rfl⟩
instance : FaT Try.prog 93 3 3 := ⟨by kernel_rfl⟩
instance : FaT Try.prog 93 4 4 := ⟨by kernel_rfl⟩
instance : IntT Try.prog 108 .u64 := ⟨by kernel_rfl⟩
instance : IntT Try.prog 133 .u32 := ⟨by kernel_rfl⟩
instance : IntT Try.prog 135 .u64 := ⟨by kernel_rfl⟩
instance : IntT Try.prog 137 .u64 := ⟨by kernel_rfl⟩
instance : IntT Try.prog 3 .i64 := ⟨by kernel_rfl⟩
instance : IntT Try.prog 5 .u8 := ⟨by kernel_rfl⟩
instance : PlT Try.prog 111 := ⟨by kernel_rfl⟩
instance : PlT Try.prog 137 := ⟨by kernel_rfl⟩
instance : PlT Try.prog 2 := ⟨by kernel_rfl⟩
instance : PlT Try.prog 22 := ⟨by kernel_rfl⟩
instance : PlT Try.prog 3 := ⟨by kernel_rfl⟩
instance : PlT Try.prog 4 := ⟨by kernel_rfl⟩
instance : PlT Try.prog 44 := ⟨by kernel_rfl⟩
instance : PlT Try.prog 5 := ⟨by kernel_rfl⟩
instance : PlT Try.prog 64 := ⟨by kernel_rfl⟩
instance : PlT Try.prog 91 := ⟨by kernel_rfl⟩
instance : SlT Try.prog 114 := ⟨by kernel_rfl, by kernel_rfl⟩
instance : SlT Try.prog 22 := ⟨by kernel_rfl, by kernel_rfl⟩
instance : SlT Try.prog 44 := ⟨by kernel_rfl, by kernel_rfl⟩
instance : SlT Try.prog 64 := ⟨by kernel_rfl, by kernel_rfl⟩
instance : SlT Try.prog 91 := ⟨by kernel_rfl, by kernel_rfl⟩
instance : StT Try.prog 24 1 := ⟨by kernel_rfl, by kernel_rfl⟩
instance : StT Try.prog 28 1 := ⟨by kernel_rfl, by kernel_rfl⟩
instance : StT Try.prog 32 1 := ⟨by kernel_rfl, by kernel_rfl⟩
instance : StT Try.prog 34 1 := ⟨by kernel_rfl, by kernel_rfl⟩
instance : StT Try.prog 71 2 := ⟨by kernel_rfl, by kernel_rfl⟩
instance : StT Try.prog 93 5 := ⟨by kernel_rfl, by kernel_rfl⟩
instance : StrT Try.prog 9 := ⟨by kernel_rfl⟩
instance : SzT Try.prog 111 1 := ⟨by kernel_rfl⟩
instance : SzT Try.prog 137 1 := ⟨by kernel_rfl⟩
instance : SzT Try.prog 2 1 := ⟨by kernel_rfl⟩
instance : SzT Try.prog 22 1 := ⟨by kernel_rfl⟩
instance : SzT Try.prog 24 1 := ⟨by kernel_rfl⟩
instance : SzT Try.prog 28 1 := ⟨by kernel_rfl⟩
instance : SzT Try.prog 3 1 := ⟨by kernel_rfl⟩
instance : SzT Try.prog 32 1 := ⟨by kernel_rfl⟩
instance : SzT Try.prog 34 1 := ⟨by kernel_rfl⟩
instance : SzT Try.prog 4 1 := ⟨by kernel_rfl⟩
instance : SzT Try.prog 44 1 := ⟨by kernel_rfl⟩
instance : SzT Try.prog 5 1 := ⟨by kernel_rfl⟩
instance : SzT Try.prog 64 1 := ⟨by kernel_rfl⟩
instance : SzT Try.prog 71 2 := ⟨by kernel_rfl⟩
instance : SzT Try.prog 91 1 := ⟨by kernel_rfl⟩
instance : SzT Try.prog 93 5 := ⟨by kernel_rfl⟩
instance : ZeT Try.prog 137 [.int .u64 0] := ⟨by kernel_rfl, rfl⟩
instance : ZeT Try.prog 2 [.int .i64 0] := ⟨by kernel_rfl, rfl⟩
instance : ZeT Try.prog 22 [.slice none 0 0] := ⟨by kernel_rfl, rfl⟩
instance : ZeT Try.prog 28 [.slice none 0 0] := ⟨by kernel_rfl, rfl⟩
instance : ZeT Try.prog 3 [.int .i64 0] := ⟨by kernel_rfl, rfl⟩
instance : ZeT Try.prog 34 [.slice none 0 0] := ⟨by kernel_rfl, rfl⟩
instance : ZeT Try.prog 44 [.slice none 0 0] := ⟨by kernel_rfl, rfl⟩
instance : ZeT Try.prog 71 [.slice none 0 0, .slice none 0 0] := ⟨by kernel_rfl, rfl⟩
instance : ZeT Try.prog 93 [.slice none 0 0, .slice none 0 0, .slice none 0 0, .slice none 0 0, .slice none 0 0] := ⟨by kernel_rfl, rfl⟩
theorem mixed : Go.Proofs.Try.prog.follows .mixedOrders = true := by kernel_rfl
end Go.Proofs.Ytpcnbdjommcaoaa
