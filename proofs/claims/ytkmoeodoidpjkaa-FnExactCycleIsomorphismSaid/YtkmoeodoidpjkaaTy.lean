/- The facts on the types of this translation that the value layer asks; no condition. -/
import Derived.Test.YtkmoeodoidpjkaaProg
import Derived.Test.YtkmoeodoidpjkaaWo
namespace Go.Proofs.Ytkmoeodoidpjkaa
set_option maxRecDepth 100000 in
instance : BuT Try.prog 56 [.slice none 0 0, .slice none 0 0] := ⟨by kernel_rfl, by kernel_rfl, rfl⟩
set_option maxRecDepth 100000 in
instance : BuT Try.prog 67 [.slice none 0 0, .slice none 0 0, .slice none 0 0, .slice none 0 0, .slice none 0 0] := ⟨by kernel_rfl, by kernel_rfl, rfl⟩
set_option maxRecDepth 100000 in
instance : ElT Try.prog (Try.prog.elem 22) (.slice none 0 0) 24 := ⟨by kernel_rfl, rfl, rfl⟩
set_option maxRecDepth 100000 in
instance : ElT Try.prog (Try.prog.elem 26) (.int .i64 0) 8 := ⟨by kernel_rfl, rfl, rfl⟩
set_option maxRecDepth 100000 in
instance : ElT Try.prog (Try.prog.elem 47) (.slice none 0 0) 24 := ⟨by kernel_rfl, rfl, rfl⟩
set_option maxRecDepth 100000 in
instance : ElT Try.prog (Try.prog.elem 65) (.bool false) 1 := ⟨by kernel_rfl, rfl, rfl⟩
instance : FaT Try.prog 24 0 0 := ⟨by kernel_rfl⟩
instance : FaT Try.prog 29 0 0 := ⟨by kernel_rfl⟩
instance : FaT Try.prog 36 0 0 := ⟨by kernel_rfl⟩
instance : FaT Try.prog 39 0 0 := ⟨by kernel_rfl⟩
instance : FaT Try.prog 56 0 0 := ⟨by kernel_rfl⟩
instance : FaT Try.prog 56 1 1 := ⟨by kernel_rfl⟩
instance : FaT Try.prog 67 0 0 := ⟨by kernel_rfl⟩
instance : FaT Try.prog 67 1 1 := ⟨by kernel_rfl⟩
instance : FaT Try.prog 67 2 2 := ⟨by kernel_rfl⟩
instance : FaT Try.prog 67 3 3 := ⟨by kernel_rfl⟩
instance : FaT Try.prog 67 4 4 := ⟨by kernel_rfl⟩
instance : PlT Try.prog 2 := ⟨by kernel_rfl⟩
instance : PlT Try.prog 22 := ⟨by kernel_rfl⟩
instance : PlT Try.prog 26 := ⟨by kernel_rfl⟩
instance : PlT Try.prog 4 := ⟨by kernel_rfl⟩
instance : PlT Try.prog 47 := ⟨by kernel_rfl⟩
instance : PlT Try.prog 65 := ⟨by kernel_rfl⟩
instance : SlT Try.prog 22 := ⟨by kernel_rfl, by kernel_rfl⟩
instance : SlT Try.prog 26 := ⟨by kernel_rfl, by kernel_rfl⟩
instance : SlT Try.prog 47 := ⟨by kernel_rfl, by kernel_rfl⟩
instance : SlT Try.prog 65 := ⟨by kernel_rfl, by kernel_rfl⟩
instance : StT Try.prog 24 1 := ⟨by kernel_rfl, by kernel_rfl⟩
instance : StT Try.prog 29 1 := ⟨by kernel_rfl, by kernel_rfl⟩
instance : StT Try.prog 36 1 := ⟨by kernel_rfl, by kernel_rfl⟩
instance : StT Try.prog 39 1 := ⟨by kernel_rfl, by kernel_rfl⟩
instance : StT Try.prog 56 2 := ⟨by kernel_rfl, by kernel_rfl⟩
instance : StT Try.prog 67 5 := ⟨by kernel_rfl, by kernel_rfl⟩
instance : SzT Try.prog 2 1 := ⟨by kernel_rfl⟩
instance : SzT Try.prog 22 1 := ⟨by kernel_rfl⟩
instance : SzT Try.prog 24 1 := ⟨by kernel_rfl⟩
instance : SzT Try.prog 26 1 := ⟨by kernel_rfl⟩
instance : SzT Try.prog 29 1 := ⟨by kernel_rfl⟩
instance : SzT Try.prog 36 1 := ⟨by kernel_rfl⟩
instance : SzT Try.prog 39 1 := ⟨by kernel_rfl⟩
instance : SzT Try.prog 4 1 := ⟨by kernel_rfl⟩
instance : SzT Try.prog 47 1 := ⟨by kernel_rfl⟩
instance : SzT Try.prog 56 2 := ⟨by kernel_rfl⟩
instance : SzT Try.prog 65 1 := ⟨by kernel_rfl⟩
instance : SzT Try.prog 67 5 := ⟨by kernel_rfl⟩
instance : ZeT Try.prog 2 [.int .i64 0] := ⟨by kernel_rfl, rfl⟩
instance : ZeT Try.prog 26 [.slice none 0 0] := ⟨by kernel_rfl, rfl⟩
instance : ZeT Try.prog 29 [.slice none 0 0] := ⟨by kernel_rfl, rfl⟩
instance : ZeT Try.prog 39 [.slice none 0 0] := ⟨by kernel_rfl, rfl⟩
instance : ZeT Try.prog 56 [.slice none 0 0, .slice none 0 0] := ⟨by kernel_rfl, rfl⟩
instance : ZeT Try.prog 67 [.slice none 0 0, .slice none 0 0, .slice none 0 0, .slice none 0 0, .slice none 0 0] := ⟨by kernel_rfl, rfl⟩
theorem mixed : Go.Proofs.Try.prog.follows .mixedOrders = true := by kernel_rfl
end Go.Proofs.Ytkmoeodoidpjkaa
