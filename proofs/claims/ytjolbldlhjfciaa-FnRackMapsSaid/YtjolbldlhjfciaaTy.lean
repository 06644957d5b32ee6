/- The facts on the types of this translation that the value layer asks; no condition. -/
import Derived.Test.YtjolbldlhjfciaaProg
import Derived.Test.YtjolbldlhjfciaaWo
namespace Go.Proofs.Ytjolbldlhjfciaa
set_option maxRecDepth 100000 in
instance : BuT Try.prog 26 [.slice none 0 0] := ⟨by kernel_rfl, by kernel_rfl, rfl⟩
set_option maxRecDepth 100000 in
instance : BuT Try.prog 51 [.slice none 0 0, .int .i64 0, .int .u64 0] := ⟨by kernel_rfl, by kernel_rfl, rfl⟩
set_option maxRecDepth 100000 in
instance : BuT Try.prog 63 [.slice none 0 0, .slice none 0 0, .slice none 0 0, .slice none 0 0, .slice none 0 0] := ⟨by kernel_rfl, by kernel_rfl, rfl⟩
set_option maxRecDepth 100000 in
instance : ElT Try.prog (Try.prog.elem 22) (.int .u8 0) 1 := ⟨by kernel_rfl, rfl, rfl⟩
set_option maxRecDepth 100000 in
instance : ElT Try.prog (Try.prog.elem 24) (.slice none 0 0) 24 := ⟨by kernel_rfl, rfl, rfl⟩
set_option maxRecDepth 100000 in
instance : ElT Try.prog (Try.prog.elem 42) (.slice none 0 0) 24 := ⟨by kernel_rfl, rfl, rfl⟩
set_option maxRecDepth 100000 in
instance : ElT Try.prog (Try.prog.elem 46) (.int .i64 0) 8 := ⟨by kernel_rfl, rfl, rfl⟩
set_option maxRecDepth 100000 in
instance : ElT Try.prog (Try.prog.elem 61) (.bool false) 1 := ⟨by kernel_rfl, rfl, rfl⟩
instance : FaT Try.prog 26 0 0 := ⟨by kernel_rfl⟩
instance : FaT Try.prog 51 0 0 := ⟨by kernel_rfl⟩
instance : FaT Try.prog 51 1 1 := ⟨by kernel_rfl⟩
instance : FaT Try.prog 51 2 2 := ⟨by kernel_rfl⟩
instance : FaT Try.prog 63 0 0 := ⟨by kernel_rfl⟩
instance : FaT Try.prog 63 1 1 := ⟨by kernel_rfl⟩
instance : FaT Try.prog 63 2 2 := ⟨by kernel_rfl⟩
instance : FaT Try.prog 63 3 3 := ⟨by kernel_rfl⟩
instance : FaT Try.prog 63 4 4 := ⟨by kernel_rfl⟩
instance : IntT Try.prog 2 .i64 := ⟨by kernel_rfl⟩
instance : IntT Try.prog 3 .i64 := ⟨by kernel_rfl⟩
instance : IntT Try.prog 49 .u64 := ⟨by kernel_rfl⟩
instance : IntT Try.prog 5 .u8 := ⟨by kernel_rfl⟩
instance : PlT Try.prog 2 := ⟨by kernel_rfl⟩
instance : PlT Try.prog 22 := ⟨by kernel_rfl⟩
instance : PlT Try.prog 24 := ⟨by kernel_rfl⟩
instance : PlT Try.prog 3 := ⟨by kernel_rfl⟩
instance : PlT Try.prog 4 := ⟨by kernel_rfl⟩
instance : PlT Try.prog 42 := ⟨by kernel_rfl⟩
instance : PlT Try.prog 45 := ⟨by kernel_rfl⟩
instance : PlT Try.prog 46 := ⟨by kernel_rfl⟩
instance : PlT Try.prog 49 := ⟨by kernel_rfl⟩
instance : PlT Try.prog 5 := ⟨by kernel_rfl⟩
instance : PlT Try.prog 61 := ⟨by kernel_rfl⟩
instance : SlT Try.prog 22 := ⟨by kernel_rfl, by kernel_rfl⟩
instance : SlT Try.prog 24 := ⟨by kernel_rfl, by kernel_rfl⟩
instance : SlT Try.prog 42 := ⟨by kernel_rfl, by kernel_rfl⟩
instance : SlT Try.prog 46 := ⟨by kernel_rfl, by kernel_rfl⟩
instance : SlT Try.prog 61 := ⟨by kernel_rfl, by kernel_rfl⟩
instance : StT Try.prog 26 1 := ⟨by kernel_rfl, by kernel_rfl⟩
instance : StT Try.prog 51 3 := ⟨by kernel_rfl, by kernel_rfl⟩
instance : StT Try.prog 63 5 := ⟨by kernel_rfl, by kernel_rfl⟩
instance : SzT Try.prog 2 1 := ⟨by kernel_rfl⟩
instance : SzT Try.prog 22 1 := ⟨by kernel_rfl⟩
instance : SzT Try.prog 24 1 := ⟨by kernel_rfl⟩
instance : SzT Try.prog 26 1 := ⟨by kernel_rfl⟩
instance : SzT Try.prog 3 1 := ⟨by kernel_rfl⟩
instance : SzT Try.prog 4 1 := ⟨by kernel_rfl⟩
instance : SzT Try.prog 42 1 := ⟨by kernel_rfl⟩
instance : SzT Try.prog 45 1 := ⟨by kernel_rfl⟩
instance : SzT Try.prog 46 1 := ⟨by kernel_rfl⟩
instance : SzT Try.prog 49 1 := ⟨by kernel_rfl⟩
instance : SzT Try.prog 5 1 := ⟨by kernel_rfl⟩
instance : SzT Try.prog 51 3 := ⟨by kernel_rfl⟩
instance : SzT Try.prog 61 1 := ⟨by kernel_rfl⟩
instance : SzT Try.prog 63 5 := ⟨by kernel_rfl⟩
instance : ZeT Try.prog 2 [.int .i64 0] := ⟨by kernel_rfl, rfl⟩
instance : ZeT Try.prog 26 [.slice none 0 0] := ⟨by kernel_rfl, rfl⟩
instance : ZeT Try.prog 3 [.int .i64 0] := ⟨by kernel_rfl, rfl⟩
instance : ZeT Try.prog 63 [.slice none 0 0, .slice none 0 0, .slice none 0 0, .slice none 0 0, .slice none 0 0] := ⟨by kernel_rfl, rfl⟩
theorem mixed : Go.Proofs.Try.prog.follows .mixedOrders = true := by kernel_rfl
end Go.Proofs.Ytjolbldlhjfciaa
