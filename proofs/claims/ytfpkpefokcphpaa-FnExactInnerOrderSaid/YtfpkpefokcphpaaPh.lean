/- Plain definitions, the eighth part: numbering anew, least congruences; no condition. -/
import Derived.Test.YtfpkpefokcphpaaPg
namespace Go.Proofs.Ytfpkpefokcphpaa
inductive Eqv (R : Int → Int → Prop) : Int → Int → Prop
  | refl (a : Int) : Eqv R a a
  | step {a b : Int} (h : R a b) : Eqv R a b
  | symm {a b : Int} (h : Eqv R a b) : Eqv R b a
  | trans {a b c : Int} (h : Eqv R a b) (k : Eqv R b c) : Eqv R a c
theorem Eqv.mono {R S : Int → Int → Prop} (h : ∀ a b, R a b → S a b) {a b : Int} (k : Eqv R a b) : Eqv S a b := by
  induction k with
  | refl a => exact .refl a
  | step k => exact .step (h _ _ k)
  | symm _ ih => exact .symm ih
  | trans _ _ ih1 ih2 => exact .trans ih1 ih2
end Go.Proofs.Ytfpkpefokcphpaa
