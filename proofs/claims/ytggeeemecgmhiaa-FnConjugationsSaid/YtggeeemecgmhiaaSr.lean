/- slices.Reverse at lists of numbers, in the value layer's words; condition: at most 10^9 elements. -/
import Derived.Test.YtggeeemecgmhiaaSh
import Derived.Test.YtggeeemecgmhiaaTy
import Derived.Test.YtggeeemecgmhiaaPP
namespace Go.Proofs.Ytggeeemecgmhiaa
theorem at_Reverse : AT Try.prog 109 List.reverse :=
  ⟨by kernel_rfl, fun _ => List.length_reverse, fun w b off cap zs hH hl => Try.slices_Reverse_int b off cap zs w hH (by omega), fun w a cap => Try.slices_Reverse_int_empty a cap w⟩
end Go.Proofs.Ytggeeemecgmhiaa
