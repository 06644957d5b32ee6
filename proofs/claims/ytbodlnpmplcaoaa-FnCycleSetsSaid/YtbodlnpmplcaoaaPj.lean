/- Plain definitions, the tenth part: pair maps that are solutions, nondegenerate, involutive; no condition. -/
import Derived.Test.YtbodlnpmplcaoaaPi
namespace Go.Proofs.Ytbodlnpmplcaoaa
def first2 (n : Int) (f : Int → Int → Bool) (g : Int → Int → List Int) : List Int :=
  match (ran n id).findSome? (fun x => (ran n id).findSome? fun y => if f x y then some (g x y) else none) with
  | some l => l
  | none => []
theorem first2_found {n : Int} {f : Int → Int → Bool} {g : Int → Int → List Int} {x y : Int} (hx : 0 ≤ x ∧ x < n) (hy : 0 ≤ y ∧ y < n) (h : f x y = true)
    (h1 : Upto x fun a => ∀ b, 0 ≤ b → b < n → f a b = false) (h2 : Upto y fun b => f x b = false) : first2 n f g = g x y := by
  unfold first2
  rw [fs_some hx (v := g x y) (fs_some hy (by simp [h]) fun b a c => by simp [h2 b a c]) fun a b c => fs_none fun d e k => by simp [h1 a b c d e k]]
theorem first2_none {n : Int} {f : Int → Int → Bool} {g : Int → Int → List Int} (h : ∀ a, 0 ≤ a → a < n → ∀ b, 0 ≤ b → b < n → f a b = false) : first2 n f g = [] := by
  unfold first2
  rw [fs_none fun a b c => fs_none fun d e k => by simp [h a b c d e k]]
theorem divmod {n a : Int} (hn : 0 < n) (h : 0 ≤ a ∧ a < n * n) : (0 ≤ a / n ∧ a / n < n) ∧ 0 ≤ a % n ∧ a % n < n :=
  ⟨⟨Int.ediv_nonneg h.1 (by omega), Int.ediv_lt_of_lt_mul hn h.2⟩, Int.emod_nonneg _ (by omega), Int.emod_lt_of_pos _ hn⟩
def colB (s t : List (List Int)) (a b : Int) : Bool :=
  !decide (a = b) && decide (el (el s (a / (s.length : Int))) (a % (s.length : Int)) = el (el s (b / (s.length : Int))) (b % (s.length : Int))) && decide (el (el t (a / (s.length : Int))) (a % (s.length : Int)) = el (el t (b / (s.length : Int))) (b % (s.length : Int)))
def colF (s t : List (List Int)) : List Int := first2 ((s.length : Int) * (s.length : Int)) (colB s t) fun a b => [a / (s.length : Int), a % (s.length : Int), b / (s.length : Int), b % (s.length : Int)]
def okTr (s : List (List Int)) (l : List Int) : Prop := l.length = 3 ∧ ∀ j, 0 ≤ j → j < 3 → 0 ≤ el l j ∧ el l j < (s.length : Int)
def doI (s t : List (List Int)) (l : List Int) (i : Int) : List Int := se (se l i (el (el s (el l i)) (el l (i + 1)))) (i + 1) (el (el t (el l i)) (el l (i + 1)))
def eqB (s t : List (List Int)) (x y z : Int) : Bool :=
  !(decide (el (el s (el (el s x) y)) (el (el s (el (el t x) y)) z) = el (el s x) (el (el s y) z)) && decide (el (el t (el (el s x) y)) (el (el s (el (el t x) y)) z) = el (el s (el (el t x) (el (el s y) z))) (el (el t y) z)) &&
    decide (el (el t (el (el t x) y)) z = el (el t (el (el t x) (el (el s y) z))) (el (el t y) z)))
def eqF (s t : List (List Int)) : List Int := first3 (s.length : Int) (eqB s t)
theorem do_eq (s t : List (List Int)) (x y z : Int) : doI s t (doI s t (doI s t [x, y, z] 0) 1) 0 = doI s t (doI s t (doI s t [x, y, z] 1) 0) 1 ↔ eqB s t x y z = false := by
  have d0 : ∀ a b c, doI s t [a, b, c] 0 = [el (el s a) b, el (el t a) b, c] := fun _ _ _ => rfl
  have d1 : ∀ a b c, doI s t [a, b, c] 1 = [a, el (el s b) c, el (el t b) c] := fun _ _ _ => rfl
  rw [d0, d1, d0, d1, d0, d1]
  simp [eqB, and_assoc]
theorem pm_tab {s t : List (List Int)} (h : pmB s t = true) : isTab s = true ∧ isTab t = true ∧ (s.length : Int) = (t.length : Int) := by
  simp only [pmB, Bool.and_eq_true, decide_eq_true_eq] at h; exact ⟨h.1.1, h.1.2, h.2⟩
theorem okTr_doI {s t : List (List Int)} (h : pmB s t = true) {l : List Int} (hl : okTr s l) {i : Int} (hi : 0 ≤ i ∧ i ≤ 1) : okTr s (doI s t l i) := by
  obtain ⟨hs, ht, he⟩ := pm_tab h
  obtain ⟨l3, lr⟩ := hl
  have a := lr i hi.1 (by omega)
  have b := lr (i + 1) (by omega) (by omega)
  have c := rk_el hs a b
  have d := rk_el ht (x := el l i) (by omega) (by omega : 0 ≤ el l (i + 1) ∧ el l (i + 1) < (t.length : Int))
  refine ⟨by simp [doI, l3], fun j j0 j1 => ?_⟩
  unfold doI
  by_cases h1 : j = i + 1
  · subst h1
    rw [el_se_same (by simp; omega)]; omega
  · rw [el_se_ne (by omega) j0 (Ne.symm h1)]
    by_cases h2 : j = i
    · subst h2
      rw [el_se_same (by omega)]; exact c
    · rw [el_se_ne hi.1 j0 (Ne.symm h2)]; exact lr j j0 j1
def solB (s t : List (List Int)) : Bool := pmB s t && (colF s t).isEmpty && (eqF s t).isEmpty
def ndB (s t : List (List Int)) : Bool := s.all isPerm && (trnT t).all isPerm
def ivP (s t : List (List Int)) (x y : Int) : Prop := el (el s (el (el s x) y)) (el (el t x) y) = x ∧ el (el t (el (el s x) y)) (el (el t x) y) = y
noncomputable def ivB (s t : List (List Int)) : Bool := dec (∀ x, 0 ≤ x → x < (s.length : Int) → ∀ y, 0 ≤ y → y < (s.length : Int) → ivP s t x y)
noncomputable def CsoE (s t : List (List Int)) : Int := if solB s t then (if ndB s t && ivB s t then 0 else 5) else 1
noncomputable def CsoT (s t : List (List Int)) : List (List Int) := if CsoE s t = 0 then s.map backI else []
end Go.Proofs.Ytbodlnpmplcaoaa
