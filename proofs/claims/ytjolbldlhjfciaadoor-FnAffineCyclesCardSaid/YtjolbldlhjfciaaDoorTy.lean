/- The facts on the types of this translation that the value layer asks; no condition. -/
import Derived.Test.YtjolbldlhjfciaaDoorProg
import Derived.Test.YtjolbldlhjfciaaDoorWp
namespace Go.Proofs.YtjolbldlhjfciaaDoor
set_option maxRecDepth 100000 in
instance : BuT Tryd.prog 28 [.slice none 0 0] := ⟨by kernel_rfl, by kernel_rfl, rfl⟩
set_option maxRecDepth 100000 in
instance : BuT Tryd.prog 55 [.slice none 0 0, .int .i64 0, .int .u64 0] := ⟨by kernel_rfl, by kernel_rfl, rfl⟩
set_option maxRecDepth 100000 in
instance : BuT Tryd.prog 93 [.int .u8 0, .int .u8 0] := ⟨by kernel_rfl, by kernel_rfl, rfl⟩
instance : ByT Tryd.prog 22 := ⟨by kernel_rfl, by kernel_rfl⟩
set_option maxRecDepth 100000 in
instance : ElT Tryd.prog (Tryd.prog.elem 22) (.int .u8 0) 1 := ⟨by kernel_rfl, rfl, rfl⟩
set_option maxRecDepth 100000 in
instance : ElT Tryd.prog (Tryd.prog.elem 26) (.slice none 0 0) 24 := ⟨by kernel_rfl, rfl, rfl⟩
set_option maxRecDepth 100000 in
instance : ElT Tryd.prog (Tryd.prog.elem 32) (.int .i64 0) 8 := ⟨by kernel_rfl, rfl, rfl⟩
set_option maxRecDepth 100000 in
instance : ElT Tryd.prog (Tryd.prog.elem 58) (.string ⟨#[]⟩) 16 := ⟨by kernel_rfl, rfl, rfl⟩
set_option maxRecDepth 100000 in
instance : ElT Tryd.prog (Tryd.prog.elem 64) (.bool false) 1 := ⟨by kernel_rfl, rfl, rfl⟩
instance : FaT Tryd.prog 28 0 0 := ⟨by kernel_rfl⟩
instance : FaT Tryd.prog 55 0 0 := ⟨by kernel_rfl⟩
instance : FaT Tryd.prog 55 1 1 := ⟨by kernel_rfl⟩
instance : FaT Tryd.prog 55 2 2 := ⟨by kernel_rfl⟩
instance : FaT Tryd.prog 74 0 0 := ⟨by kernel_rfl⟩
instance : FaT Tryd.prog 74 1 1 := ⟨by kernel_rfl⟩
instance : FaT Tryd.prog 93 0 0 := ⟨by kernel_rfl⟩
instance : FaT Tryd.prog 93 1 1 := ⟨by kernel_rfl⟩
instance : IntT Tryd.prog 2 .i64 := ⟨by kernel_rfl⟩
instance : IntT Tryd.prog 21 .i32 := ⟨by kernel_rfl⟩
instance : IntT Tryd.prog 3 .i64 := ⟨by kernel_rfl⟩
instance : IntT Tryd.prog 5 .u8 := ⟨by kernel_rfl⟩
instance : IntT Tryd.prog 53 .u64 := ⟨by kernel_rfl⟩
instance : IntT Tryd.prog 95 .u32 := ⟨by kernel_rfl⟩
instance : PlT Tryd.prog 2 := ⟨by kernel_rfl⟩
instance : PlT Tryd.prog 22 := ⟨by kernel_rfl⟩
instance : PlT Tryd.prog 26 := ⟨by kernel_rfl⟩
instance : PlT Tryd.prog 3 := ⟨by kernel_rfl⟩
instance : PlT Tryd.prog 32 := ⟨by kernel_rfl⟩
instance : PlT Tryd.prog 4 := ⟨by kernel_rfl⟩
instance : PlT Tryd.prog 5 := ⟨by kernel_rfl⟩
instance : PlT Tryd.prog 53 := ⟨by kernel_rfl⟩
instance : PlT Tryd.prog 72 := ⟨by kernel_rfl⟩
instance : PlT Tryd.prog 9 := ⟨by kernel_rfl⟩
instance : SlT Tryd.prog 22 := ⟨by kernel_rfl, by kernel_rfl⟩
instance : SlT Tryd.prog 26 := ⟨by kernel_rfl, by kernel_rfl⟩
instance : SlT Tryd.prog 32 := ⟨by kernel_rfl, by kernel_rfl⟩
instance : SlT Tryd.prog 58 := ⟨by kernel_rfl, by kernel_rfl⟩
instance : SlT Tryd.prog 64 := ⟨by kernel_rfl, by kernel_rfl⟩
instance : StT Tryd.prog 28 1 := ⟨by kernel_rfl, by kernel_rfl⟩
instance : StT Tryd.prog 55 3 := ⟨by kernel_rfl, by kernel_rfl⟩
instance : StT Tryd.prog 93 2 := ⟨by kernel_rfl, by kernel_rfl⟩
instance : StrT Tryd.prog 9 := ⟨by kernel_rfl⟩
instance : SzT Tryd.prog 2 1 := ⟨by kernel_rfl⟩
instance : SzT Tryd.prog 22 1 := ⟨by kernel_rfl⟩
instance : SzT Tryd.prog 26 1 := ⟨by kernel_rfl⟩
instance : SzT Tryd.prog 28 1 := ⟨by kernel_rfl⟩
instance : SzT Tryd.prog 3 1 := ⟨by kernel_rfl⟩
instance : SzT Tryd.prog 32 1 := ⟨by kernel_rfl⟩
instance : SzT Tryd.prog 4 1 := ⟨by kernel_rfl⟩
instance : SzT Tryd.prog 5 1 := ⟨by kernel_rfl⟩
instance : SzT Tryd.prog 53 1 := ⟨by kernel_rfl⟩
instance : SzT Tryd.prog 55 3 := ⟨by kernel_rfl⟩
instance : SzT Tryd.prog 72 1 := ⟨by kernel_rfl⟩
instance : SzT Tryd.prog 9 1 := ⟨by kernel_rfl⟩
instance : SzT Tryd.prog 93 2 := ⟨by kernel_rfl⟩
instance : SzT Tryd.prog 94 32 := ⟨by kernel_rfl⟩
instance : ZeT Tryd.prog 2 [.int .i64 0] := ⟨by kernel_rfl, rfl⟩
instance : ZeT Tryd.prog 28 [.slice none 0 0] := ⟨by kernel_rfl, rfl⟩
instance : ZeT Tryd.prog 74 [.pointer none, .slice none 0 0] := ⟨by kernel_rfl, rfl⟩
instance : ZeT Tryd.prog 93 [.int .u8 0, .int .u8 0] := ⟨by kernel_rfl, rfl⟩
theorem mixed : Go.Proofs.Tryd.prog.follows .mixedOrders = true := by kernel_rfl
end Go.Proofs.YtjolbldlhjfciaaDoor
