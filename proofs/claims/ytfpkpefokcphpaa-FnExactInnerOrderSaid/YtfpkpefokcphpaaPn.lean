/- Plain definitions, the fourteenth part: products and unions of racks are racks, duals, quandles of racks; no condition. -/
import Derived.Test.YtfpkpefokcphpaaPm
namespace Go.Proofs.Ytfpkpefokcphpaa
section
variable {a b : List (List Int)}
theorem permsN_rk {t : List (List Int)} (h : isRk t = true) : permsN (t.length : Int) t := fun p hp => by
  obtain ⟨i, hi, rfl⟩ := mem_el hp
  exact ⟨rk_len (isRk_tab h) hi, all_perm_el (isRk_perm h) hi⟩
end
end Go.Proofs.Ytfpkpefokcphpaa
