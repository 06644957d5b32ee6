/- The facts on the types of this translation that the value layer asks; no condition. -/
import Derived.Test.YtkmoeodoidpjkaaDoorProg
import Derived.Test.YtkmoeodoidpjkaaDoorWp
namespace Go.Proofs.YtkmoeodoidpjkaaDoor
set_option maxRecDepth 100000 in
instance : BuT Tryd.prog 24 [.slice none 0 0] := ⟨by kernel_rfl, by kernel_rfl, rfl⟩
set_option maxRecDepth 100000 in
instance : BuT Tryd.prog 30 [.slice none 0 0] := ⟨by kernel_rfl, by kernel_rfl, rfl⟩
set_option maxRecDepth 100000 in
instance : BuT Tryd.prog 71 [.int .u8 0, .int .u8 0] := ⟨by kernel_rfl, by kernel_rfl, rfl⟩
set_option maxRecDepth 100000 in
instance : ElT Tryd.prog (Tryd.prog.elem 22) (.slice none 0 0) 24 := ⟨by kernel_rfl, rfl, rfl⟩
set_option maxRecDepth 100000 in
instance : ElT Tryd.prog (Tryd.prog.elem 41) (.string ⟨#[]⟩) 16 := ⟨by kernel_rfl, rfl, rfl⟩
set_option maxRecDepth 100000 in
instance : ElT Tryd.prog (Tryd.prog.elem 43) (.int .i64 0) 8 := ⟨by kernel_rfl, rfl, rfl⟩
set_option maxRecDepth 100000 in
instance : ElT Tryd.prog (Tryd.prog.elem 59) (.bool false) 1 := ⟨by kernel_rfl, rfl, rfl⟩
instance : FaT Tryd.prog 24 0 0 := ⟨by kernel_rfl⟩
instance : FaT Tryd.prog 30 0 0 := ⟨by kernel_rfl⟩
instance : FaT Tryd.prog 71 0 0 := ⟨by kernel_rfl⟩
instance : FaT Tryd.prog 71 1 1 := ⟨by kernel_rfl⟩
instance : IntT Tryd.prog 2 .i64 := ⟨by kernel_rfl⟩
instance : IntT Tryd.prog 21 .i32 := ⟨by kernel_rfl⟩
instance : IntT Tryd.prog 3 .i64 := ⟨by kernel_rfl⟩
instance : IntT Tryd.prog 5 .u8 := ⟨by kernel_rfl⟩
instance : IntT Tryd.prog 73 .u32 := ⟨by kernel_rfl⟩
instance : PlT Tryd.prog 2 := ⟨by kernel_rfl⟩
instance : PlT Tryd.prog 22 := ⟨by kernel_rfl⟩
instance : PlT Tryd.prog 3 := ⟨by kernel_rfl⟩
instance : PlT Tryd.prog 4 := ⟨by kernel_rfl⟩
instance : PlT Tryd.prog 43 := ⟨by kernel_rfl⟩
instance : PlT Tryd.prog 5 := ⟨by kernel_rfl⟩
instance : PlT Tryd.prog 9 := ⟨by kernel_rfl⟩
instance : SlT Tryd.prog 22 := ⟨by kernel_rfl, by kernel_rfl⟩
instance : SlT Tryd.prog 41 := ⟨by kernel_rfl, by kernel_rfl⟩
instance : SlT Tryd.prog 43 := ⟨by kernel_rfl, by kernel_rfl⟩
instance : SlT Tryd.prog 59 := ⟨by kernel_rfl, by kernel_rfl⟩
instance : StT Tryd.prog 24 1 := ⟨by kernel_rfl, by kernel_rfl⟩
instance : StT Tryd.prog 30 1 := ⟨by kernel_rfl, by kernel_rfl⟩
instance : StT Tryd.prog 71 2 := ⟨by kernel_rfl, by kernel_rfl⟩
instance : StrT Tryd.prog 9 := ⟨by kernel_rfl⟩
instance : SzT Tryd.prog 2 1 := ⟨by kernel_rfl⟩
instance : SzT Tryd.prog 22 1 := ⟨by kernel_rfl⟩
instance : SzT Tryd.prog 24 1 := ⟨by kernel_rfl⟩
instance : SzT Tryd.prog 3 1 := ⟨by kernel_rfl⟩
instance : SzT Tryd.prog 30 1 := ⟨by kernel_rfl⟩
instance : SzT Tryd.prog 4 1 := ⟨by kernel_rfl⟩
instance : SzT Tryd.prog 43 1 := ⟨by kernel_rfl⟩
instance : SzT Tryd.prog 5 1 := ⟨by kernel_rfl⟩
instance : SzT Tryd.prog 71 2 := ⟨by kernel_rfl⟩
instance : SzT Tryd.prog 72 32 := ⟨by kernel_rfl⟩
instance : SzT Tryd.prog 9 1 := ⟨by kernel_rfl⟩
instance : ZeT Tryd.prog 2 [.int .i64 0] := ⟨by kernel_rfl, rfl⟩
instance : ZeT Tryd.prog 24 [.slice none 0 0] := ⟨by kernel_rfl, rfl⟩
instance : ZeT Tryd.prog 30 [.slice none 0 0] := ⟨by kernel_rfl, rfl⟩
instance : ZeT Tryd.prog 71 [.int .u8 0, .int .u8 0] := ⟨by kernel_rfl, rfl⟩
theorem mixed : Go.Proofs.Tryd.prog.follows .mixedOrders = true := by kernel_rfl
end Go.Proofs.YtkmoeodoidpjkaaDoor
