/- Plain definitions, the thirteenth part: lists of permutations, drawn tables; no condition. -/
import Derived.Test.YtbodlnpmplcaoaaPl
namespace Go.Proofs.Ytbodlnpmplcaoaa
theorem isTab_rows {o : List (List Int)} {n : Int} (hn : 1 ≤ n ∧ n ≤ 12) (hl : (o.length : Int) = n) (h : ∀ r ∈ o, (r.length : Int) = n ∧ ∀ z ∈ r, 0 ≤ z ∧ z < n) : isTab o = true :=
  isTab_mk (by omega) fun i i0 i1 => by
    have hr := h _ (el_mem ⟨i0, i1⟩)
    exact ⟨by omega, fun j j0 j1 => by have := hr.2 _ (el_mem (i := j) ⟨j0, by omega⟩); omega⟩
theorem mem_app {α : Type} {l : List α} {x : α} {P : α → Prop} (h : ∀ z ∈ l, P z) (hx : P x) : ∀ z ∈ l ++ [x], P z := fun z hz => by
  rcases List.mem_append.1 hz with h1 | h1
  · exact h z h1
  · rw [List.mem_singleton.1 h1]; exact hx
theorem gcd_lt {a b : Int} (_ : 0 ≤ a) (hb : 0 < b) : 0 ≤ a % b ∧ a % b < b := ⟨Int.emod_nonneg _ (by omega), Int.emod_lt_of_pos _ hb⟩

end Go.Proofs.Ytbodlnpmplcaoaa
