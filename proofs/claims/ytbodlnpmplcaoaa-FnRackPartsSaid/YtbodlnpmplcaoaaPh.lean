/- Plain definitions, the eighth part: numbering anew, least congruences; no condition. -/
import Derived.Test.YtbodlnpmplcaoaaPg
namespace Go.Proofs.Ytbodlnpmplcaoaa
inductive Eqv (R : Int → Int → Prop) : Int → Int → Prop
  | refl (a : Int) : Eqv R a a
  | step {a b : Int} (h : R a b) : Eqv R a b
  | symm {a b : Int} (h : Eqv R a b) : Eqv R b a
  | trans {a b c : Int} (h : Eqv R a b) (k : Eqv R b c) : Eqv R a c
theorem Eqv.mono {R S : Int → Int → Prop} (h : ∀ a b, R a b → S a b) {a b : Int} (k : Eqv R a b) : Eqv S a b := by
  induction k with
  | refl a => exact .refl a
  | step k => exact .step (h _ _ k)
  | symm _ ih => exact .symm ih
  | trans _ _ ih1 ih2 => exact .trans ih1 ih2
def Lst (one two : List Int) (a b : Int) : Prop := ∃ j, (0 ≤ j ∧ j < (one.length : Int)) ∧ el one j = a ∧ el two j = b
theorem Lst.app {one two s1 s2 : List Int} {a b : Int} (hl : one.length = two.length) (h : Lst one two a b) : Lst (one ++ s1) (two ++ s2) a b := by
  obtain ⟨j, hj, e1, e2⟩ := h
  exact ⟨j, ⟨hj.1, by simp; omega⟩, by rw [el_append_l hj]; exact e1, by rw [el_append_l ⟨hj.1, by omega⟩]; exact e2⟩
end Go.Proofs.Ytbodlnpmplcaoaa
