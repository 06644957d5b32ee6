/- The facts on the types of this translation that the value layer asks; no condition. -/
import Derived.Test.YtjolbldlhjfciaaGreatDoorProg
import Derived.Test.YtjolbldlhjfciaaGreatDoorWp
namespace Go.Proofs.YtjolbldlhjfciaaGreatDoor
instance : BoT Tryz.prog 4 := ⟨by kernel_rfl⟩
set_option maxRecDepth 100000 in
instance : BuT Tryz.prog 131 [.int .u8 0, .int .u8 0] := ⟨by kernel_rfl, by kernel_rfl, rfl⟩
set_option maxRecDepth 100000 in
instance : BuT Tryz.prog 26 [.slice none 0 0] := ⟨by kernel_rfl, by kernel_rfl, rfl⟩
set_option maxRecDepth 100000 in
instance : BuT Tryz.prog 62 [.slice none 0 0, .int .i64 0, .int .u64 0] := ⟨by kernel_rfl, by kernel_rfl, rfl⟩
set_option maxRecDepth 100000 in
instance : BuT Tryz.prog 69 [.slice none 0 0, .slice none 0 0, .slice none 0 0, .slice none 0 0, .slice none 0 0] := ⟨by kernel_rfl, by kernel_rfl, rfl⟩
instance : ByT Tryz.prog 22 := ⟨by kernel_rfl, by kernel_rfl⟩
set_option maxRecDepth 100000 in
instance : ElT Tryz.prog (Tryz.prog.elem 22) (.int .u8 0) 1 := ⟨by kernel_rfl, rfl, rfl⟩
set_option maxRecDepth 100000 in
instance : ElT Tryz.prog (Tryz.prog.elem 24) (.slice none 0 0) 24 := ⟨by kernel_rfl, rfl, rfl⟩
set_option maxRecDepth 100000 in
instance : ElT Tryz.prog (Tryz.prog.elem 29) (.int .i64 0) 8 := ⟨by kernel_rfl, rfl, rfl⟩
set_option maxRecDepth 100000 in
instance : ElT Tryz.prog (Tryz.prog.elem 50) (.slice none 0 0) 24 := ⟨by kernel_rfl, rfl, rfl⟩
set_option maxRecDepth 100000 in
instance : ElT Tryz.prog (Tryz.prog.elem 67) (.bool false) 1 := ⟨by kernel_rfl, rfl, rfl⟩
set_option maxRecDepth 100000 in
instance : ElT Tryz.prog (Tryz.prog.elem 77) (.string ⟨#[]⟩) 16 := ⟨by kernel_rfl, rfl, rfl⟩
instance : FaT Tryz.prog 101 0 0 := ⟨by kernel_rfl⟩
instance : FaT Tryz.prog 101 1 1 := ⟨by kernel_rfl⟩
instance : FaT Tryz.prog 131 0 0 := ⟨by kernel_rfl⟩
instance : FaT Tryz.prog 131 1 1 := ⟨by kernel_rfl⟩
instance : FaT Tryz.prog 26 0 0 := ⟨by kernel_rfl⟩
instance : FaT Tryz.prog 62 0 0 := ⟨by kernel_rfl⟩
instance : FaT Tryz.prog 62 1 1 := ⟨by kernel_rfl⟩
instance : FaT Tryz.prog 62 2 2 := ⟨by kernel_rfl⟩
instance : FaT Tryz.prog 69 0 0 := ⟨by kernel_rfl⟩
instance : FaT Tryz.prog 69 1 1 := ⟨by kernel_rfl⟩
instance : FaT Tryz.prog 69 2 2 := ⟨by kernel_rfl⟩
instance : FaT Tryz.prog 69 3 3 := ⟨by kernel_rfl⟩
instance : FaT Tryz.prog 69 4 4 := ⟨by kernel_rfl⟩
instance : FvT Tryz.prog 26 0 0 := ⟨by kernel_rfl⟩
instance : IntT Tryz.prog 133 .u32 := ⟨by kernel_rfl⟩
instance : IntT Tryz.prog 2 .i64 := ⟨by kernel_rfl⟩
instance : IntT Tryz.prog 21 .i32 := ⟨by kernel_rfl⟩
instance : IntT Tryz.prog 3 .i64 := ⟨by kernel_rfl⟩
instance : IntT Tryz.prog 5 .u8 := ⟨by kernel_rfl⟩
instance : IntT Tryz.prog 60 .u64 := ⟨by kernel_rfl⟩
instance : PlT Tryz.prog 2 := ⟨by kernel_rfl⟩
instance : PlT Tryz.prog 22 := ⟨by kernel_rfl⟩
instance : PlT Tryz.prog 24 := ⟨by kernel_rfl⟩
instance : PlT Tryz.prog 29 := ⟨by kernel_rfl⟩
instance : PlT Tryz.prog 3 := ⟨by kernel_rfl⟩
instance : PlT Tryz.prog 4 := ⟨by kernel_rfl⟩
instance : PlT Tryz.prog 5 := ⟨by kernel_rfl⟩
instance : PlT Tryz.prog 50 := ⟨by kernel_rfl⟩
instance : PlT Tryz.prog 60 := ⟨by kernel_rfl⟩
instance : PlT Tryz.prog 67 := ⟨by kernel_rfl⟩
instance : PlT Tryz.prog 9 := ⟨by kernel_rfl⟩
instance : PlT Tryz.prog 99 := ⟨by kernel_rfl⟩
instance : SlT Tryz.prog 22 := ⟨by kernel_rfl, by kernel_rfl⟩
instance : SlT Tryz.prog 24 := ⟨by kernel_rfl, by kernel_rfl⟩
instance : SlT Tryz.prog 29 := ⟨by kernel_rfl, by kernel_rfl⟩
instance : SlT Tryz.prog 50 := ⟨by kernel_rfl, by kernel_rfl⟩
instance : SlT Tryz.prog 67 := ⟨by kernel_rfl, by kernel_rfl⟩
instance : SlT Tryz.prog 77 := ⟨by kernel_rfl, by kernel_rfl⟩
instance : StT Tryz.prog 131 2 := ⟨by kernel_rfl, by kernel_rfl⟩
instance : StT Tryz.prog 26 1 := ⟨by kernel_rfl, by kernel_rfl⟩
instance : StT Tryz.prog 62 3 := ⟨by kernel_rfl, by kernel_rfl⟩
instance : StT Tryz.prog 69 5 := ⟨by kernel_rfl, by kernel_rfl⟩
instance : StrT Tryz.prog 9 := ⟨by kernel_rfl⟩
instance : SzT Tryz.prog 131 2 := ⟨by kernel_rfl⟩
instance : SzT Tryz.prog 132 32 := ⟨by kernel_rfl⟩
instance : SzT Tryz.prog 2 1 := ⟨by kernel_rfl⟩
instance : SzT Tryz.prog 22 1 := ⟨by kernel_rfl⟩
instance : SzT Tryz.prog 24 1 := ⟨by kernel_rfl⟩
instance : SzT Tryz.prog 26 1 := ⟨by kernel_rfl⟩
instance : SzT Tryz.prog 29 1 := ⟨by kernel_rfl⟩
instance : SzT Tryz.prog 3 1 := ⟨by kernel_rfl⟩
instance : SzT Tryz.prog 4 1 := ⟨by kernel_rfl⟩
instance : SzT Tryz.prog 5 1 := ⟨by kernel_rfl⟩
instance : SzT Tryz.prog 50 1 := ⟨by kernel_rfl⟩
instance : SzT Tryz.prog 60 1 := ⟨by kernel_rfl⟩
instance : SzT Tryz.prog 62 3 := ⟨by kernel_rfl⟩
instance : SzT Tryz.prog 67 1 := ⟨by kernel_rfl⟩
instance : SzT Tryz.prog 69 5 := ⟨by kernel_rfl⟩
instance : SzT Tryz.prog 9 1 := ⟨by kernel_rfl⟩
instance : SzT Tryz.prog 99 1 := ⟨by kernel_rfl⟩
instance : ZeT Tryz.prog 101 [.pointer none, .slice none 0 0] := ⟨by kernel_rfl, rfl⟩
instance : ZeT Tryz.prog 131 [.int .u8 0, .int .u8 0] := ⟨by kernel_rfl, rfl⟩
instance : ZeT Tryz.prog 2 [.int .i64 0] := ⟨by kernel_rfl, rfl⟩
instance : ZeT Tryz.prog 24 [.slice none 0 0] := ⟨by kernel_rfl, rfl⟩
instance : ZeT Tryz.prog 26 [.slice none 0 0] := ⟨by kernel_rfl, rfl⟩
instance : ZeT Tryz.prog 29 [.slice none 0 0] := ⟨by kernel_rfl, rfl⟩
instance : ZeT Tryz.prog 69 [.slice none 0 0, .slice none 0 0, .slice none 0 0, .slice none 0 0, .slice none 0 0] := ⟨by kernel_rfl, rfl⟩
theorem mixed : Go.Proofs.Tryz.prog.follows .mixedOrders = true := by kernel_rfl
end Go.Proofs.YtjolbldlhjfciaaGreatDoor
