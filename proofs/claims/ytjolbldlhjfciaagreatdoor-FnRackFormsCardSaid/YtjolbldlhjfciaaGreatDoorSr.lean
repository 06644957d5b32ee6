/- slices.Reverse at lists of numbers, in the value layer's words; condition: at most 10^9 elements. -/
import Derived.Test.YtjolbldlhjfciaaGreatDoorSh
import Derived.Test.YtjolbldlhjfciaaGreatDoorTy
import Derived.Test.YtjolbldlhjfciaaGreatDoorPP
namespace Go.Proofs.YtjolbldlhjfciaaGreatDoor
theorem at_Reverse:AT Tryz.prog 98 List.reverse:=
  ⟨by kernel_rfl,fun _=>List.length_reverse,fun w b off cap zs hH hl=>Tryz.slices_Reverse_int b off cap zs w hH (by omega),fun w a cap=>Tryz.slices_Reverse_int_empty a cap w⟩
end Go.Proofs.YtjolbldlhjfciaaGreatDoor
