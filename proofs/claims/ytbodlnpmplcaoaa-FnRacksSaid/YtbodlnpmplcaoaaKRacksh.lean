/- Contracts of functions that the law FnRacks reaches: conditions, plain proofs, walks; no condition. -/
import Derived.Test.YtbodlnpmplcaoaaKRacksg
import Derived.Test.YtbodlnpmplcaoaaPh
namespace Go.Proofs.Ytbodlnpmplcaoaa


theorem jn_el {labels : List Int} {a b : Int} {j : Int} (hj : 0 ≤ j ∧ j < (labels.length : Int)) : el (jnI labels a b) j = if el labels j = (if el labels a < el labels b then el labels b else el labels a) then (if el labels b < el labels a then el labels b else el labels a) else el labels j := el_mg hj
theorem mg_list {L : List Int} {f g : Int} {o : List Int} (hl : o.length = L.length) (h : ∀ j, 0 ≤ j → j < (L.length : Int) → el o j = if el L j = f then g else el L j) : o = mgI L f g :=
  ext_el (by simp [mgI, hl]) fun j a b => by rw [el_mg ⟨a, by omega⟩]; exact h j a (by omega)
theorem cgI_is {t : List (List Int)} (ht : isTab t = true) {x y : Int} (hx : 0 ≤ x ∧ x < (t.length : Int)) (hy : 0 ≤ y ∧ y < (t.length : Int)) : CgP t x y (cgI t x y) := by
  let m : List (List Int) → List Int → Prop := fun t l => l = cgI t x y
  have hex : ∃ l, CgP t x y l := by
    have hn := isTab_len ht
    have key : ∀ (f : Nat) (L : List Int), fixs (t.length : Int) L ≤ f → Lb t x y L → el L x = el L y → ∃ l, CgP t x y l := by
      intro f
      induction f with
      | zero =>
        intro L hf hL hxy
        exfalso
        have hpos : 0 < fixs (t.length : Int) L := by
          unfold fixs
          refine List.length_pos_of_mem (a := el L x) (List.mem_filter.2 ⟨mem_ran.2 (hL.2 x hx.1 hx.2).1, decide_eq_true (hL.2 x hx.1 hx.2).2.1⟩)
        omega
      | succ f ih =>
        intro L hf hL hxy
        by_cases hC : CongP t L
        · exact ⟨_, lb_fin ht hx hy hL hxy hC⟩
        · unfold CongP at hC
          simp only [Classical.not_forall] at hC
          obtain ⟨a, b, c, d, ha, hb, hc, hd, eac, ebd, hne⟩ := hC
          have u := rk_el ht ha hb
          have v := rk_el ht hc hd
          have hcg : Cg t x y (el (el t a) b) (el (el t c) d) := .trans (.right b hb ha hc (lb_ker hL ha hc eac)) (.left c hc hb hd (lb_ker hL hb hd ebd))
          obtain ⟨k1, k2, k3, k4⟩ := jn_spec hL u v hcg
          exact ih _ (by have := k4 hne; omega) k1 (k2 x y hx hy hxy)
    obtain ⟨j1, j2, j3, j4⟩ := jn_spec (lb_unit (t := t) (x := x) (y := y)) hx hy .base
    exact key _ _ (Nat.le_refl _) j1 j3
  obtain ⟨l, h⟩ := hex
  exact the_spec h
end Go.Proofs.Ytbodlnpmplcaoaa
