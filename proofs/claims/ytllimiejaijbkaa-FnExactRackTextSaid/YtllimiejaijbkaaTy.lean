/- The facts on the types of this translation that the value layer asks; no condition. -/
import Derived.Test.YtllimiejaijbkaaProg
import Derived.Test.YtllimiejaijbkaaWd
namespace Go.Proofs.Ytllimiejaijbkaa
instance : BoT Try.prog 4 := ⟨by kernel_rfl⟩
set_option maxRecDepth 100000 in
instance : BuT Try.prog 25 [.slice none 0 0] := ⟨by kernel_rfl, by kernel_rfl, rfl⟩
set_option maxRecDepth 100000 in
instance : BuT Try.prog 36 [.slice none 0 0, .slice none 0 0] := ⟨by kernel_rfl, by kernel_rfl, rfl⟩
set_option maxRecDepth 100000 in
instance : BuT Try.prog 50 [.slice none 0 0] := ⟨by kernel_rfl, by kernel_rfl, rfl⟩
instance : ByT Try.prog 118 := ⟨by kernel_rfl, by kernel_rfl⟩
set_option maxRecDepth 100000 in
instance : ElT Try.prog (Try.prog.elem 110) (.string ⟨#[]⟩) 16 := ⟨by kernel_rfl, rfl, rfl⟩
set_option maxRecDepth 100000 in
instance : ElT Try.prog (Try.prog.elem 117) (.bool false) 1 := ⟨by kernel_rfl, rfl, rfl⟩
set_option maxRecDepth 100000 in
instance : ElT Try.prog (Try.prog.elem 118) (.int .u8 0) 1 := ⟨by kernel_rfl, rfl, rfl⟩
set_option maxRecDepth 100000 in
instance : ElT Try.prog (Try.prog.elem 22) (.slice none 0 0) 24 := ⟨by kernel_rfl, rfl, rfl⟩
set_option maxRecDepth 100000 in
instance : ElT Try.prog (Try.prog.elem 54) (.int .i64 0) 8 := ⟨by kernel_rfl, rfl, rfl⟩
instance : FaT Try.prog 122 0 0 := ⟨by kernel_rfl⟩
instance : FaT Try.prog 122 1 1 := ⟨by kernel_rfl⟩
instance : FaT Try.prog 25 0 0 := ⟨by kernel_rfl⟩
instance : FaT Try.prog 33 0 0 := ⟨by kernel_rfl⟩
instance : FaT Try.prog 36 0 0 := ⟨by kernel_rfl⟩
instance : FaT Try.prog 36 1 1 := ⟨by kernel_rfl⟩
instance : FaT Try.prog 47 0 0 := ⟨by kernel_rfl⟩
instance : FaT Try.prog 50 0 0 := ⟨by kernel_rfl⟩
instance : IntT Try.prog 2 .i64 := ⟨by kernel_rfl⟩
instance : IntT Try.prog 5 .u8 := ⟨by kernel_rfl⟩
instance : PlT Try.prog 106 := ⟨by kernel_rfl⟩
instance : PlT Try.prog 118 := ⟨by kernel_rfl⟩
instance : PlT Try.prog 120 := ⟨by kernel_rfl⟩
instance : PlT Try.prog 2 := ⟨by kernel_rfl⟩
instance : PlT Try.prog 22 := ⟨by kernel_rfl⟩
instance : PlT Try.prog 4 := ⟨by kernel_rfl⟩
instance : PlT Try.prog 5 := ⟨by kernel_rfl⟩
instance : PlT Try.prog 54 := ⟨by kernel_rfl⟩
instance : PlT Try.prog 74 := ⟨by kernel_rfl⟩
instance : PlT Try.prog 9 := ⟨by kernel_rfl⟩
instance : SlT Try.prog 110 := ⟨by kernel_rfl, by kernel_rfl⟩
instance : SlT Try.prog 117 := ⟨by kernel_rfl, by kernel_rfl⟩
instance : SlT Try.prog 118 := ⟨by kernel_rfl, by kernel_rfl⟩
instance : SlT Try.prog 22 := ⟨by kernel_rfl, by kernel_rfl⟩
instance : SlT Try.prog 54 := ⟨by kernel_rfl, by kernel_rfl⟩
instance : StT Try.prog 25 1 := ⟨by kernel_rfl, by kernel_rfl⟩
instance : StT Try.prog 33 1 := ⟨by kernel_rfl, by kernel_rfl⟩
instance : StT Try.prog 36 2 := ⟨by kernel_rfl, by kernel_rfl⟩
instance : StT Try.prog 47 1 := ⟨by kernel_rfl, by kernel_rfl⟩
instance : StT Try.prog 50 1 := ⟨by kernel_rfl, by kernel_rfl⟩
instance : StrT Try.prog 9 := ⟨by kernel_rfl⟩
instance : SzT Try.prog 106 1 := ⟨by kernel_rfl⟩
instance : SzT Try.prog 118 1 := ⟨by kernel_rfl⟩
instance : SzT Try.prog 120 1 := ⟨by kernel_rfl⟩
instance : SzT Try.prog 2 1 := ⟨by kernel_rfl⟩
instance : SzT Try.prog 22 1 := ⟨by kernel_rfl⟩
instance : SzT Try.prog 25 1 := ⟨by kernel_rfl⟩
instance : SzT Try.prog 33 1 := ⟨by kernel_rfl⟩
instance : SzT Try.prog 36 2 := ⟨by kernel_rfl⟩
instance : SzT Try.prog 4 1 := ⟨by kernel_rfl⟩
instance : SzT Try.prog 47 1 := ⟨by kernel_rfl⟩
instance : SzT Try.prog 5 1 := ⟨by kernel_rfl⟩
instance : SzT Try.prog 50 1 := ⟨by kernel_rfl⟩
instance : SzT Try.prog 54 1 := ⟨by kernel_rfl⟩
instance : SzT Try.prog 74 1 := ⟨by kernel_rfl⟩
instance : SzT Try.prog 9 1 := ⟨by kernel_rfl⟩
instance : ZeT Try.prog 122 [.pointer none, .slice none 0 0] := ⟨by kernel_rfl, rfl⟩
instance : ZeT Try.prog 2 [.int .i64 0] := ⟨by kernel_rfl, rfl⟩
instance : ZeT Try.prog 25 [.slice none 0 0] := ⟨by kernel_rfl, rfl⟩
instance : ZeT Try.prog 36 [.slice none 0 0, .slice none 0 0] := ⟨by kernel_rfl, rfl⟩
instance : ZeT Try.prog 50 [.slice none 0 0] := ⟨by kernel_rfl, rfl⟩
instance : ZeT Try.prog 54 [.slice none 0 0] := ⟨by kernel_rfl, rfl⟩
theorem mixed : Go.Proofs.Try.prog.follows .mixedOrders = true := by kernel_rfl
end Go.Proofs.Ytllimiejaijbkaa
