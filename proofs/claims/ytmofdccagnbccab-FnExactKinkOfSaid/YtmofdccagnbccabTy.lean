/- The facts on the types of this translation that the value layer asks; no condition. -/
import Derived.Test.YtmofdccagnbccabProg
import Derived.Test.YtmofdccagnbccabWa
namespace Go.Proofs.Ytmofdccagnbccab
instance : BoT Try.prog 4 := ⟨by kernel_rfl⟩
set_option maxRecDepth 100000 in
instance : BuT Try.prog 118 [.slice none 0 0, .int .i64 0, .int .u64 0] := ⟨by kernel_rfl, by kernel_rfl, rfl⟩
set_option maxRecDepth 100000 in
instance : BuT Try.prog 24 [.slice none 0 0] := ⟨by kernel_rfl, by kernel_rfl, rfl⟩
set_option maxRecDepth 100000 in
instance : BuT Try.prog 32 [.slice none 0 0] := ⟨by kernel_rfl, by kernel_rfl, rfl⟩
set_option maxRecDepth 100000 in
instance : BuT Try.prog 98 [.slice none 0 0, .int .i64 0, .int .u64 0] := ⟨by kernel_rfl, by kernel_rfl, rfl⟩
set_option maxRecDepth 100000 in
instance : ElT Try.prog (Try.prog.elem 114) (.slice none 0 0) 24 := ⟨by kernel_rfl, rfl, rfl⟩
set_option maxRecDepth 100000 in
instance : ElT Try.prog (Try.prog.elem 127) (.bool false) 1 := ⟨by kernel_rfl, rfl, rfl⟩
set_option maxRecDepth 100000 in
instance : ElT Try.prog (Try.prog.elem 143) (.string ⟨#[]⟩) 16 := ⟨by kernel_rfl, rfl, rfl⟩
set_option maxRecDepth 100000 in
instance : ElT Try.prog (Try.prog.elem 22) (.slice none 0 0) 24 := ⟨by kernel_rfl, rfl, rfl⟩
set_option maxRecDepth 100000 in
instance : ElT Try.prog (Try.prog.elem 30) (.int .u8 0) 1 := ⟨by kernel_rfl, rfl, rfl⟩
set_option maxRecDepth 100000 in
instance : ElT Try.prog (Try.prog.elem 33) (.int .i64 0) 8 := ⟨by kernel_rfl, rfl, rfl⟩
instance : FaT Try.prog 118 0 0 := ⟨by kernel_rfl⟩
instance : FaT Try.prog 118 1 1 := ⟨by kernel_rfl⟩
instance : FaT Try.prog 118 2 2 := ⟨by kernel_rfl⟩
instance : FaT Try.prog 158 0 0 := ⟨by kernel_rfl⟩
instance : FaT Try.prog 158 1 1 := ⟨by kernel_rfl⟩
instance : FaT Try.prog 24 0 0 := ⟨by kernel_rfl⟩
instance : FaT Try.prog 32 0 0 := ⟨by kernel_rfl⟩
instance : FaT Try.prog 49 0 0 := ⟨by kernel_rfl⟩
instance : FaT Try.prog 55 0 0 := ⟨by kernel_rfl⟩
instance : FaT Try.prog 98 0 0 := ⟨by kernel_rfl⟩
instance : FaT Try.prog 98 1 1 := ⟨by kernel_rfl⟩
instance : FaT Try.prog 98 2 2 := ⟨by kernel_rfl⟩
instance : IntT Try.prog 140 .u32 := ⟨by kernel_rfl⟩
instance : IntT Try.prog 148 .u64 := ⟨by kernel_rfl⟩
instance : IntT Try.prog 2 .i64 := ⟨by kernel_rfl⟩
instance : IntT Try.prog 3 .i64 := ⟨by kernel_rfl⟩
instance : IntT Try.prog 45 .u64 := ⟨by kernel_rfl⟩
instance : IntT Try.prog 5 .u8 := ⟨by kernel_rfl⟩
instance : IntT Try.prog 99 .u64 := ⟨by kernel_rfl⟩
instance : PlT Try.prog 148 := ⟨by kernel_rfl⟩
instance : PlT Try.prog 156 := ⟨by kernel_rfl⟩
instance : PlT Try.prog 2 := ⟨by kernel_rfl⟩
instance : PlT Try.prog 22 := ⟨by kernel_rfl⟩
instance : PlT Try.prog 3 := ⟨by kernel_rfl⟩
instance : PlT Try.prog 30 := ⟨by kernel_rfl⟩
instance : PlT Try.prog 33 := ⟨by kernel_rfl⟩
instance : PlT Try.prog 4 := ⟨by kernel_rfl⟩
instance : PlT Try.prog 45 := ⟨by kernel_rfl⟩
instance : PlT Try.prog 5 := ⟨by kernel_rfl⟩
instance : PlT Try.prog 9 := ⟨by kernel_rfl⟩
instance : PlT Try.prog 94 := ⟨by kernel_rfl⟩
instance : SlT Try.prog 114 := ⟨by kernel_rfl, by kernel_rfl⟩
instance : SlT Try.prog 127 := ⟨by kernel_rfl, by kernel_rfl⟩
instance : SlT Try.prog 143 := ⟨by kernel_rfl, by kernel_rfl⟩
instance : SlT Try.prog 22 := ⟨by kernel_rfl, by kernel_rfl⟩
instance : SlT Try.prog 30 := ⟨by kernel_rfl, by kernel_rfl⟩
instance : SlT Try.prog 33 := ⟨by kernel_rfl, by kernel_rfl⟩
instance : StT Try.prog 118 3 := ⟨by kernel_rfl, by kernel_rfl⟩
instance : StT Try.prog 24 1 := ⟨by kernel_rfl, by kernel_rfl⟩
instance : StT Try.prog 32 1 := ⟨by kernel_rfl, by kernel_rfl⟩
instance : StT Try.prog 49 1 := ⟨by kernel_rfl, by kernel_rfl⟩
instance : StT Try.prog 55 1 := ⟨by kernel_rfl, by kernel_rfl⟩
instance : StT Try.prog 98 3 := ⟨by kernel_rfl, by kernel_rfl⟩
instance : StrT Try.prog 9 := ⟨by kernel_rfl⟩
instance : SzT Try.prog 118 3 := ⟨by kernel_rfl⟩
instance : SzT Try.prog 148 1 := ⟨by kernel_rfl⟩
instance : SzT Try.prog 156 1 := ⟨by kernel_rfl⟩
instance : SzT Try.prog 2 1 := ⟨by kernel_rfl⟩
instance : SzT Try.prog 22 1 := ⟨by kernel_rfl⟩
instance : SzT Try.prog 24 1 := ⟨by kernel_rfl⟩
instance : SzT Try.prog 3 1 := ⟨by kernel_rfl⟩
instance : SzT Try.prog 30 1 := ⟨by kernel_rfl⟩
instance : SzT Try.prog 32 1 := ⟨by kernel_rfl⟩
instance : SzT Try.prog 33 1 := ⟨by kernel_rfl⟩
instance : SzT Try.prog 4 1 := ⟨by kernel_rfl⟩
instance : SzT Try.prog 45 1 := ⟨by kernel_rfl⟩
instance : SzT Try.prog 49 1 := ⟨by kernel_rfl⟩
instance : SzT Try.prog 5 1 := ⟨by kernel_rfl⟩
instance : SzT Try.prog 55 1 := ⟨by kernel_rfl⟩
instance : SzT Try.prog 9 1 := ⟨by kernel_rfl⟩
instance : SzT Try.prog 94 1 := ⟨by kernel_rfl⟩
instance : SzT Try.prog 98 3 := ⟨by kernel_rfl⟩
instance : ZeT Try.prog 148 [.int .u64 0] := ⟨by kernel_rfl, rfl⟩
instance : ZeT Try.prog 158 [.pointer none, .slice none 0 0] := ⟨by kernel_rfl, rfl⟩
instance : ZeT Try.prog 2 [.int .i64 0] := ⟨by kernel_rfl, rfl⟩
instance : ZeT Try.prog 24 [.slice none 0 0] := ⟨by kernel_rfl, rfl⟩
instance : ZeT Try.prog 3 [.int .i64 0] := ⟨by kernel_rfl, rfl⟩
instance : ZeT Try.prog 32 [.slice none 0 0] := ⟨by kernel_rfl, rfl⟩
theorem mixed : Go.Proofs.Try.prog.follows .mixedOrders = true := by kernel_rfl
end Go.Proofs.Ytmofdccagnbccab
