/- Plain definitions, the fifth part: orbits, labels in the order in which they come first; no condition. -/
import Derived.Test.YtfpkpefokcphpaaPd
namespace Go.Proofs.Ytfpkpefokcphpaa
def permsN (n : Int) (list : List (List Int)) : Prop := ∀ p ∈ list, (p.length : Int) = n ∧ isPerm p = true
theorem nodup_len {α : Type} [DecidableEq α] : ∀ (l p : List α), l.Nodup → (∀ x ∈ l, x ∈ p) → l.length ≤ p.length
  | [], p, _, _ => Nat.zero_le _
  | a :: l, p, hn, hs => by
    have ha := hs a List.mem_cons_self
    have hn' := List.nodup_cons.1 hn
    have ih := nodup_len l (p.erase a) hn'.2 (fun x hx => by
      have hne : x ≠ a := fun e => hn'.1 (e ▸ hx)
      exact (List.mem_erase_of_ne hne).2 (hs x (List.mem_cons_of_mem _ hx)))
    rw [List.length_erase_of_mem ha] at ih
    have := List.length_pos_of_mem ha
    simp; omega
end Go.Proofs.Ytfpkpefokcphpaa
