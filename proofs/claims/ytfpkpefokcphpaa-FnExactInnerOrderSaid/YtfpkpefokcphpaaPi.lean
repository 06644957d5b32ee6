/- Plain definitions, the ninth part: texts of lists and tables; no condition. -/
import Derived.Test.YtfpkpefokcphpaaPh
import Derived.Lib.Join
namespace Go.Proofs.Ytfpkpefokcphpaa
def digs (l : List Int) : Prop := ∀ i, 0 ≤ i → i < (l.length : Int) → 0 ≤ el l i ∧ el l i < 12
def dgt (x : Int) : UInt8 := UInt8.ofNat (if x < 10 then 48 + x else 97 + x - 10).toNat
def digI (l : List Int) : List UInt8 := l.map dgt
@[simp] theorem digI_len (l : List Int) : (digI l).length = l.length := by simp [digI]
end Go.Proofs.Ytfpkpefokcphpaa
