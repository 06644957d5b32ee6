/- The facts on the types of this translation that the value layer asks; no condition. -/
import Derived.Test.YtggeeemecgmhiaaProg
import Derived.Test.YtggeeemecgmhiaaWo
namespace Go.Proofs.Ytggeeemecgmhiaa
instance : BoT Try.prog 4 := ⟨by kernel_rfl⟩
set_option maxRecDepth 100000 in
instance : BuT Try.prog 27 [.slice none 0 0] := ⟨by kernel_rfl, by kernel_rfl, rfl⟩
set_option maxRecDepth 100000 in
instance : BuT Try.prog 80 [.slice none 0 0, .int .i64 0, .int .u64 0] := ⟨by kernel_rfl, by kernel_rfl, rfl⟩
set_option maxRecDepth 100000 in
instance : BuT Try.prog 97 [.slice none 0 0, .slice none 0 0, .slice none 0 0, .slice none 0 0, .slice none 0 0] := ⟨by kernel_rfl, by kernel_rfl, rfl⟩
instance : ByT Try.prog 22 := ⟨by kernel_rfl, by kernel_rfl⟩
set_option maxRecDepth 100000 in
instance : ElT Try.prog (Try.prog.elem 22) (.int .u8 0) 1 := ⟨by kernel_rfl, rfl, rfl⟩
set_option maxRecDepth 100000 in
instance : ElT Try.prog (Try.prog.elem 24) (.slice none 0 0) 24 := ⟨by kernel_rfl, rfl, rfl⟩
set_option maxRecDepth 100000 in
instance : ElT Try.prog (Try.prog.elem 33) (.int .i64 0) 8 := ⟨by kernel_rfl, rfl, rfl⟩
set_option maxRecDepth 100000 in
instance : ElT Try.prog (Try.prog.elem 71) (.slice none 0 0) 24 := ⟨by kernel_rfl, rfl, rfl⟩
set_option maxRecDepth 100000 in
instance : ElT Try.prog (Try.prog.elem 95) (.bool false) 1 := ⟨by kernel_rfl, rfl, rfl⟩
instance : FaT Try.prog 27 0 0 := ⟨by kernel_rfl⟩
instance : FaT Try.prog 80 0 0 := ⟨by kernel_rfl⟩
instance : FaT Try.prog 80 1 1 := ⟨by kernel_rfl⟩
instance : FaT Try.prog 80 2 2 := ⟨by kernel_rfl⟩
instance : FaT Try.prog 97 0 0 := ⟨by kernel_rfl⟩
instance : FaT Try.prog 97 1 1 := ⟨by kernel_rfl⟩
instance : FaT Try.prog 97 2 2 := ⟨by kernel_rfl⟩
instance : FaT Try.prog 97 3 3 := ⟨by kernel_rfl⟩
instance : FaT Try.prog 97 4 4 := ⟨by kernel_rfl⟩
instance : IntT Try.prog 111 .u32 := ⟨by kernel_rfl⟩
instance : IntT Try.prog 121 .u64 := ⟨by kernel_rfl⟩
instance : IntT Try.prog 2 .i64 := ⟨by kernel_rfl⟩
instance : IntT Try.prog 3 .i64 := ⟨by kernel_rfl⟩
instance : IntT Try.prog 5 .u8 := ⟨by kernel_rfl⟩
instance : IntT Try.prog 78 .u64 := ⟨by kernel_rfl⟩
instance : IntT Try.prog 81 .u64 := ⟨by kernel_rfl⟩
instance : PlT Try.prog 121 := ⟨by kernel_rfl⟩
instance : PlT Try.prog 2 := ⟨by kernel_rfl⟩
instance : PlT Try.prog 22 := ⟨by kernel_rfl⟩
instance : PlT Try.prog 24 := ⟨by kernel_rfl⟩
instance : PlT Try.prog 3 := ⟨by kernel_rfl⟩
instance : PlT Try.prog 33 := ⟨by kernel_rfl⟩
instance : PlT Try.prog 4 := ⟨by kernel_rfl⟩
instance : PlT Try.prog 5 := ⟨by kernel_rfl⟩
instance : PlT Try.prog 58 := ⟨by kernel_rfl⟩
instance : PlT Try.prog 71 := ⟨by kernel_rfl⟩
instance : PlT Try.prog 78 := ⟨by kernel_rfl⟩
instance : PlT Try.prog 95 := ⟨by kernel_rfl⟩
instance : SlT Try.prog 22 := ⟨by kernel_rfl, by kernel_rfl⟩
instance : SlT Try.prog 24 := ⟨by kernel_rfl, by kernel_rfl⟩
instance : SlT Try.prog 33 := ⟨by kernel_rfl, by kernel_rfl⟩
instance : SlT Try.prog 71 := ⟨by kernel_rfl, by kernel_rfl⟩
instance : SlT Try.prog 95 := ⟨by kernel_rfl, by kernel_rfl⟩
instance : StT Try.prog 27 1 := ⟨by kernel_rfl, by kernel_rfl⟩
instance : StT Try.prog 80 3 := ⟨by kernel_rfl, by kernel_rfl⟩
instance : StT Try.prog 97 5 := ⟨by kernel_rfl, by kernel_rfl⟩
instance : StrT Try.prog 9 := ⟨by kernel_rfl⟩
instance : SzT Try.prog 121 1 := ⟨by kernel_rfl⟩
instance : SzT Try.prog 2 1 := ⟨by kernel_rfl⟩
instance : SzT Try.prog 22 1 := ⟨by kernel_rfl⟩
instance : SzT Try.prog 24 1 := ⟨by kernel_rfl⟩
instance : SzT Try.prog 27 1 := ⟨by kernel_rfl⟩
instance : SzT Try.prog 3 1 := ⟨by kernel_rfl⟩
instance : SzT Try.prog 33 1 := ⟨by kernel_rfl⟩
instance : SzT Try.prog 4 1 := ⟨by kernel_rfl⟩
instance : SzT Try.prog 5 1 := ⟨by kernel_rfl⟩
instance : SzT Try.prog 58 1 := ⟨by kernel_rfl⟩
instance : SzT Try.prog 71 1 := ⟨by kernel_rfl⟩
instance : SzT Try.prog 78 1 := ⟨by kernel_rfl⟩
instance : SzT Try.prog 80 3 := ⟨by kernel_rfl⟩
instance : SzT Try.prog 95 1 := ⟨by kernel_rfl⟩
instance : SzT Try.prog 97 5 := ⟨by kernel_rfl⟩
instance : ZeT Try.prog 121 [.int .u64 0] := ⟨by kernel_rfl, rfl⟩
instance : ZeT Try.prog 2 [.int .i64 0] := ⟨by kernel_rfl, rfl⟩
instance : ZeT Try.prog 24 [.slice none 0 0] := ⟨by kernel_rfl, rfl⟩
instance : ZeT Try.prog 27 [.slice none 0 0] := ⟨by kernel_rfl, rfl⟩
instance : ZeT Try.prog 3 [.int .i64 0] := ⟨by kernel_rfl, rfl⟩
instance : ZeT Try.prog 33 [.slice none 0 0] := ⟨by kernel_rfl, rfl⟩
instance : ZeT Try.prog 97 [.slice none 0 0, .slice none 0 0, .slice none 0 0, .slice none 0 0, .slice none 0 0] := ⟨by kernel_rfl, rfl⟩
theorem mixed : Go.Proofs.Try.prog.follows .mixedOrders = true := by kernel_rfl
end Go.Proofs.Ytggeeemecgmhiaa
