/- The facts on the types of this translation that the value layer asks; no condition. -/
import Derived.Test.YtbodlnpmplcaoaaProg
import Derived.Test.YtbodlnpmplcaoaaWf
namespace Go.Proofs.Ytbodlnpmplcaoaa
instance : ArT Try.prog 83 2 2 [.int .i64 0, .int .i64 0] := ⟨by kernel_rfl, by kernel_rfl, rfl, by kernel_rfl, by kernel_rfl⟩
instance : BoT Try.prog 4 := ⟨by kernel_rfl⟩
set_option maxRecDepth 100000 in
instance : BuT Try.prog 117 [.slice none 0 0, .int .i64 0, .int .u64 0] := ⟨by kernel_rfl, by kernel_rfl, rfl⟩
set_option maxRecDepth 100000 in
instance : BuT Try.prog 26 [.slice none 0 0] := ⟨by kernel_rfl, by kernel_rfl, rfl⟩
set_option maxRecDepth 100000 in
instance : BuT Try.prog 52 [.slice none 0 0] := ⟨by kernel_rfl, by kernel_rfl, rfl⟩
set_option maxRecDepth 100000 in
instance : BuT Try.prog 66 [.slice none 0 0, .slice none 0 0] := ⟨by kernel_rfl, by kernel_rfl, rfl⟩
set_option maxRecDepth 100000 in
instance : BuT Try.prog 94 [.slice none 0 0, .int .i64 0, .int .u64 0] := ⟨by kernel_rfl, by kernel_rfl, rfl⟩
set_option maxRecDepth 100000 in
instance : ElT Try.prog (Try.prog.elem 124) (.bool false) 1 := ⟨by kernel_rfl, rfl, rfl⟩
set_option maxRecDepth 100000 in
instance : ElT Try.prog (Try.prog.elem 22) (.int .u8 0) 1 := ⟨by kernel_rfl, rfl, rfl⟩
set_option maxRecDepth 100000 in
instance : ElT Try.prog (Try.prog.elem 24) (.slice none 0 0) 24 := ⟨by kernel_rfl, rfl, rfl⟩
set_option maxRecDepth 100000 in
instance : ElT Try.prog (Try.prog.elem 27) (.int .i64 0) 8 := ⟨by kernel_rfl, rfl, rfl⟩
instance : FaT Try.prog 117 0 0 := ⟨by kernel_rfl⟩
instance : FaT Try.prog 117 1 1 := ⟨by kernel_rfl⟩
instance : FaT Try.prog 117 2 2 := ⟨by kernel_rfl⟩
instance : FaT Try.prog 26 0 0 := ⟨by kernel_rfl⟩
instance : FaT Try.prog 52 0 0 := ⟨by kernel_rfl⟩
instance : FaT Try.prog 66 0 0 := ⟨by kernel_rfl⟩
instance : FaT Try.prog 66 1 1 := ⟨by kernel_rfl⟩
instance : FaT Try.prog 94 0 0 := ⟨by kernel_rfl⟩
instance : FaT Try.prog 94 1 1 := ⟨by kernel_rfl⟩
instance : FaT Try.prog 94 2 2 := ⟨by kernel_rfl⟩
instance : IntT Try.prog 139 .u32 := ⟨by kernel_rfl⟩
instance : IntT Try.prog 148 .u64 := ⟨by kernel_rfl⟩
instance : IntT Try.prog 2 .i64 := ⟨by kernel_rfl⟩
instance : IntT Try.prog 3 .i64 := ⟨by kernel_rfl⟩
instance : IntT Try.prog 39 .u64 := ⟨by kernel_rfl⟩
instance : IntT Try.prog 5 .u8 := ⟨by kernel_rfl⟩
instance : IntT Try.prog 95 .u64 := ⟨by kernel_rfl⟩
instance : PlT Try.prog 127 := ⟨by kernel_rfl⟩
instance : PlT Try.prog 148 := ⟨by kernel_rfl⟩
instance : PlT Try.prog 2 := ⟨by kernel_rfl⟩
instance : PlT Try.prog 22 := ⟨by kernel_rfl⟩
instance : PlT Try.prog 24 := ⟨by kernel_rfl⟩
instance : PlT Try.prog 27 := ⟨by kernel_rfl⟩
instance : PlT Try.prog 3 := ⟨by kernel_rfl⟩
instance : PlT Try.prog 39 := ⟨by kernel_rfl⟩
instance : PlT Try.prog 4 := ⟨by kernel_rfl⟩
instance : PlT Try.prog 5 := ⟨by kernel_rfl⟩
instance : PlT Try.prog 90 := ⟨by kernel_rfl⟩
instance : SlT Try.prog 124 := ⟨by kernel_rfl, by kernel_rfl⟩
instance : SlT Try.prog 22 := ⟨by kernel_rfl, by kernel_rfl⟩
instance : SlT Try.prog 24 := ⟨by kernel_rfl, by kernel_rfl⟩
instance : SlT Try.prog 27 := ⟨by kernel_rfl, by kernel_rfl⟩
instance : StT Try.prog 117 3 := ⟨by kernel_rfl, by kernel_rfl⟩
instance : StT Try.prog 26 1 := ⟨by kernel_rfl, by kernel_rfl⟩
instance : StT Try.prog 52 1 := ⟨by kernel_rfl, by kernel_rfl⟩
instance : StT Try.prog 66 2 := ⟨by kernel_rfl, by kernel_rfl⟩
instance : StT Try.prog 94 3 := ⟨by kernel_rfl, by kernel_rfl⟩
instance : StrT Try.prog 9 := ⟨by kernel_rfl⟩
instance : SzT Try.prog 117 3 := ⟨by kernel_rfl⟩
instance : SzT Try.prog 127 1 := ⟨by kernel_rfl⟩
instance : SzT Try.prog 148 1 := ⟨by kernel_rfl⟩
instance : SzT Try.prog 2 1 := ⟨by kernel_rfl⟩
instance : SzT Try.prog 22 1 := ⟨by kernel_rfl⟩
instance : SzT Try.prog 24 1 := ⟨by kernel_rfl⟩
instance : SzT Try.prog 26 1 := ⟨by kernel_rfl⟩
instance : SzT Try.prog 27 1 := ⟨by kernel_rfl⟩
instance : SzT Try.prog 3 1 := ⟨by kernel_rfl⟩
instance : SzT Try.prog 39 1 := ⟨by kernel_rfl⟩
instance : SzT Try.prog 4 1 := ⟨by kernel_rfl⟩
instance : SzT Try.prog 5 1 := ⟨by kernel_rfl⟩
instance : SzT Try.prog 52 1 := ⟨by kernel_rfl⟩
instance : SzT Try.prog 66 2 := ⟨by kernel_rfl⟩
instance : SzT Try.prog 90 1 := ⟨by kernel_rfl⟩
instance : SzT Try.prog 94 3 := ⟨by kernel_rfl⟩
instance : ZeT Try.prog 148 [.int .u64 0] := ⟨by kernel_rfl, rfl⟩
instance : ZeT Try.prog 2 [.int .i64 0] := ⟨by kernel_rfl, rfl⟩
instance : ZeT Try.prog 26 [.slice none 0 0] := ⟨by kernel_rfl, rfl⟩
instance : ZeT Try.prog 27 [.slice none 0 0] := ⟨by kernel_rfl, rfl⟩
instance : ZeT Try.prog 3 [.int .i64 0] := ⟨by kernel_rfl, rfl⟩
instance : ZeT Try.prog 52 [.slice none 0 0] := ⟨by kernel_rfl, rfl⟩
instance : ZeT Try.prog 66 [.slice none 0 0, .slice none 0 0] := ⟨by kernel_rfl, rfl⟩
theorem mixed : Go.Proofs.Try.prog.follows .mixedOrders = true := by kernel_rfl
end Go.Proofs.Ytbodlnpmplcaoaa
