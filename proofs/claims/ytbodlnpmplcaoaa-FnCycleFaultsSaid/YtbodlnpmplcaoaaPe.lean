/- Plain definitions, the fifth part: orbits, labels in the order in which they come first; no condition. -/
import Derived.Test.YtbodlnpmplcaoaaPd
namespace Go.Proofs.Ytbodlnpmplcaoaa
theorem nodup_len {α : Type} [DecidableEq α] : ∀ (l p : List α), l.Nodup → (∀ x ∈ l, x ∈ p) → l.length ≤ p.length
  | [], p, _, _ => Nat.zero_le _
  | a :: l, p, hn, hs => by
    have ha := hs a List.mem_cons_self
    have hn' := List.nodup_cons.1 hn
    have ih := nodup_len l (p.erase a) hn'.2 (fun x hx => by
      have hne : x ≠ a := fun e => hn'.1 (e ▸ hx)
      exact (List.mem_erase_of_ne hne).2 (hs x (List.mem_cons_of_mem _ hx)))
    rw [List.length_erase_of_mem ha] at ih
    have := List.length_pos_of_mem ha
    simp; omega
theorem nodup_len_ran {l : List Int} {n : Int} (hn : 0 ≤ n) (h : l.Nodup) (hr : ∀ x ∈ l, 0 ≤ x ∧ x < n) : (l.length : Int) ≤ n := by
  have := nodup_len l (ran n id) h fun x hx => mem_ran.2 (hr x hx)
  simp at this; omega
end Go.Proofs.Ytbodlnpmplcaoaa
