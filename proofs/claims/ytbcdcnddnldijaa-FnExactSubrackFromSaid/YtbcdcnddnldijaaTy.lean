/- The facts on the types of this translation that the value layer asks; no condition. -/
import Derived.Test.YtbcdcnddnldijaaProg
import Derived.Test.YtbcdcnddnldijaaWe
namespace Go.Proofs.Ytbcdcnddnldijaa
instance : ArT Try.prog 67 2 2 [.int .i64 0, .int .i64 0] := ⟨by kernel_rfl, by kernel_rfl, rfl, by kernel_rfl, by kernel_rfl⟩
set_option maxRecDepth 100000 in
instance : BuT Try.prog 103 [.slice none 0 0, .slice none 0 0, .slice none 0 0, .slice none 0 0, .slice none 0 0] := ⟨by kernel_rfl, by kernel_rfl, rfl⟩
set_option maxRecDepth 100000 in
instance : BuT Try.prog 27 [.slice none 0 0] := ⟨by kernel_rfl, by kernel_rfl, rfl⟩
set_option maxRecDepth 100000 in
instance : BuT Try.prog 42 [.slice none 0 0] := ⟨by kernel_rfl, by kernel_rfl, rfl⟩
set_option maxRecDepth 100000 in
instance : ElT Try.prog (Try.prog.elem 101) (.bool false) 1 := ⟨by kernel_rfl, rfl, rfl⟩
set_option maxRecDepth 100000 in
instance : ElT Try.prog (Try.prog.elem 22) (.slice none 0 0) 24 := ⟨by kernel_rfl, rfl, rfl⟩
set_option maxRecDepth 100000 in
instance : ElT Try.prog (Try.prog.elem 38) (.int .i64 0) 8 := ⟨by kernel_rfl, rfl, rfl⟩
set_option maxRecDepth 100000 in
instance : ElT Try.prog (Try.prog.elem 78) (.slice none 0 0) 24 := ⟨by kernel_rfl, rfl, rfl⟩
instance : FaT Try.prog 103 0 0 := ⟨by kernel_rfl⟩
instance : FaT Try.prog 103 1 1 := ⟨by kernel_rfl⟩
instance : FaT Try.prog 103 2 2 := ⟨by kernel_rfl⟩
instance : FaT Try.prog 103 3 3 := ⟨by kernel_rfl⟩
instance : FaT Try.prog 103 4 4 := ⟨by kernel_rfl⟩
instance : FaT Try.prog 24 0 0 := ⟨by kernel_rfl⟩
instance : FaT Try.prog 24 1 1 := ⟨by kernel_rfl⟩
instance : FaT Try.prog 27 0 0 := ⟨by kernel_rfl⟩
instance : FaT Try.prog 30 0 0 := ⟨by kernel_rfl⟩
instance : FaT Try.prog 30 1 1 := ⟨by kernel_rfl⟩
instance : FaT Try.prog 37 0 0 := ⟨by kernel_rfl⟩
instance : FaT Try.prog 42 0 0 := ⟨by kernel_rfl⟩
instance : IntT Try.prog 120 .u32 := ⟨by kernel_rfl⟩
instance : IntT Try.prog 132 .u64 := ⟨by kernel_rfl⟩
instance : IntT Try.prog 2 .i64 := ⟨by kernel_rfl⟩
instance : IntT Try.prog 3 .i64 := ⟨by kernel_rfl⟩
instance : IntT Try.prog 5 .u8 := ⟨by kernel_rfl⟩
instance : IntT Try.prog 62 .u64 := ⟨by kernel_rfl⟩
instance : IntT Try.prog 87 .u64 := ⟨by kernel_rfl⟩
instance : PlT Try.prog 101 := ⟨by kernel_rfl⟩
instance : PlT Try.prog 132 := ⟨by kernel_rfl⟩
instance : PlT Try.prog 2 := ⟨by kernel_rfl⟩
instance : PlT Try.prog 22 := ⟨by kernel_rfl⟩
instance : PlT Try.prog 3 := ⟨by kernel_rfl⟩
instance : PlT Try.prog 38 := ⟨by kernel_rfl⟩
instance : PlT Try.prog 4 := ⟨by kernel_rfl⟩
instance : PlT Try.prog 78 := ⟨by kernel_rfl⟩
instance : PlT Try.prog 96 := ⟨by kernel_rfl⟩
instance : SlT Try.prog 101 := ⟨by kernel_rfl, by kernel_rfl⟩
instance : SlT Try.prog 22 := ⟨by kernel_rfl, by kernel_rfl⟩
instance : SlT Try.prog 38 := ⟨by kernel_rfl, by kernel_rfl⟩
instance : SlT Try.prog 78 := ⟨by kernel_rfl, by kernel_rfl⟩
instance : StT Try.prog 103 5 := ⟨by kernel_rfl, by kernel_rfl⟩
instance : StT Try.prog 24 2 := ⟨by kernel_rfl, by kernel_rfl⟩
instance : StT Try.prog 27 1 := ⟨by kernel_rfl, by kernel_rfl⟩
instance : StT Try.prog 30 2 := ⟨by kernel_rfl, by kernel_rfl⟩
instance : StT Try.prog 37 1 := ⟨by kernel_rfl, by kernel_rfl⟩
instance : StT Try.prog 42 1 := ⟨by kernel_rfl, by kernel_rfl⟩
instance : StrT Try.prog 9 := ⟨by kernel_rfl⟩
instance : SzT Try.prog 101 1 := ⟨by kernel_rfl⟩
instance : SzT Try.prog 103 5 := ⟨by kernel_rfl⟩
instance : SzT Try.prog 132 1 := ⟨by kernel_rfl⟩
instance : SzT Try.prog 2 1 := ⟨by kernel_rfl⟩
instance : SzT Try.prog 22 1 := ⟨by kernel_rfl⟩
instance : SzT Try.prog 24 2 := ⟨by kernel_rfl⟩
instance : SzT Try.prog 27 1 := ⟨by kernel_rfl⟩
instance : SzT Try.prog 3 1 := ⟨by kernel_rfl⟩
instance : SzT Try.prog 30 2 := ⟨by kernel_rfl⟩
instance : SzT Try.prog 37 1 := ⟨by kernel_rfl⟩
instance : SzT Try.prog 38 1 := ⟨by kernel_rfl⟩
instance : SzT Try.prog 4 1 := ⟨by kernel_rfl⟩
instance : SzT Try.prog 42 1 := ⟨by kernel_rfl⟩
instance : SzT Try.prog 78 1 := ⟨by kernel_rfl⟩
instance : SzT Try.prog 96 1 := ⟨by kernel_rfl⟩
instance : ZeT Try.prog 103 [.slice none 0 0, .slice none 0 0, .slice none 0 0, .slice none 0 0, .slice none 0 0] := ⟨by kernel_rfl, rfl⟩
instance : ZeT Try.prog 132 [.int .u64 0] := ⟨by kernel_rfl, rfl⟩
instance : ZeT Try.prog 2 [.int .i64 0] := ⟨by kernel_rfl, rfl⟩
instance : ZeT Try.prog 22 [.slice none 0 0] := ⟨by kernel_rfl, rfl⟩
instance : ZeT Try.prog 27 [.slice none 0 0] := ⟨by kernel_rfl, rfl⟩
instance : ZeT Try.prog 3 [.int .i64 0] := ⟨by kernel_rfl, rfl⟩
instance : ZeT Try.prog 30 [.slice none 0 0, .slice none 0 0] := ⟨by kernel_rfl, rfl⟩
instance : ZeT Try.prog 38 [.slice none 0 0] := ⟨by kernel_rfl, rfl⟩
instance : ZeT Try.prog 42 [.slice none 0 0] := ⟨by kernel_rfl, rfl⟩
theorem mixed : Go.Proofs.Try.prog.follows .mixedOrders = true := by kernel_rfl
end Go.Proofs.Ytbcdcnddnldijaa
