/- Contracts of functions that the law FnRacks reaches: conditions, plain proofs, walks; no condition. -/
import Derived.Test.YtbodlnpmplcaoaaKRacksc
import Derived.Test.YtbodlnpmplcaoaaPd
namespace Go.Proofs.Ytbodlnpmplcaoaa


theorem fir_el {c : List Int} (h : canB 0 c = true) {k : Int} (hk : 0 ≤ k ∧ k < canN 0 c) : (0 ≤ el (firI c) k ∧ el (firI c) k < (c.length : Int)) ∧ el c (el (firI c) k) = k := by
  rw [firI, el_ran hk]; exact can_fir h hk
theorem length_firI {c : List Int} (h : canB 0 c = true) : ((firI c).length : Int) = canN 0 c := by
  have := canN_le h
  simp [firI]; omega
theorem pro_bd {n m x : Int} (_hn : 1 ≤ n ∧ n ≤ 12) (hm : 1 ≤ m ∧ m ≤ 12) (hx : 0 ≤ x ∧ x < n * m) : (0 ≤ x / m ∧ x / m < n) ∧ (0 ≤ x % m ∧ x % m < m) :=
  ⟨⟨Int.ediv_nonneg hx.1 (by omega), Int.ediv_lt_of_lt_mul (by omega) hx.2⟩, Int.emod_nonneg x (by omega), Int.emod_lt_of_pos x (by omega)⟩
theorem pro_N {n m : Int} (hn : 1 ≤ n ∧ n ≤ 12) (hm : 1 ≤ m ∧ m ≤ 12) : 0 ≤ n * m ∧ n * m ≤ 144 := by
  have := mulB (a := n) (i := m) (A := 12) (B := 12) ⟨by omega, by omega, by omega, by omega⟩
  omega
theorem pro1 {a b : List (List Int)} (h : (isRk a && isRk b) = false) : [] = ProT a b ∧ 1 = ProE a b := by
  have e : ProE a b = 1 := by unfold ProE; rw [h]; rfl
  exact ⟨by unfold ProT; rw [e]; rfl, e.symm⟩
theorem pro3 {a b : List (List Int)} (h : (isRk a && isRk b) = true) (h2 : (12 : Int) < (a.length : Int) * (b.length : Int)) : [] = ProT a b ∧ 3 = ProE a b := by
  have e : ProE a b = 3 := by unfold ProE; rw [h, if_pos h2]; rfl
  exact ⟨by unfold ProT; rw [e]; rfl, e.symm⟩
theorem pro0 {a b : List (List Int)} (h : (isRk a && isRk b) = true) (h2 : ¬ (12 : Int) < (a.length : Int) * (b.length : Int)) : proT a b = ProT a b ∧ 0 = ProE a b := by
  have e : ProE a b = 0 := by unfold ProE; rw [h, if_neg h2]; rfl
  exact ⟨by unfold ProT; rw [e]; rfl, e.symm⟩
theorem uniV_in {r s : List (List Int)} (hr : isTab r = true) (hs : isTab s = true) {x y : Int} (x0 : 0 ≤ x) (x1 : x < (r.length : Int) + (s.length : Int)) (y0 : 0 ≤ y) (y1 : y < (r.length : Int) + (s.length : Int)) : 0 ≤ uniV r s x y ∧ uniV r s x y < (r.length : Int) + (s.length : Int) := by
  unfold uniV
  split
  · rename_i h; have := rk_el hr ⟨x0, h.1⟩ ⟨y0, h.2⟩; omega
  · split
    · rename_i h; have := rk_el hs (x := x - (r.length : Int)) (y := y - (r.length : Int)) ⟨by omega, by omega⟩ ⟨by omega, by omega⟩; omega
    · omega
theorem uniV_a {r s : List (List Int)} {x y : Int} (h1 : x < (r.length : Int)) (h2 : y < (r.length : Int)) : el (el r x) y = uniV r s x y := by unfold uniV; rw [if_pos ⟨h1, h2⟩]
theorem uniV_b {r s : List (List Int)} {x y : Int} (h1 : (r.length : Int) ≤ x) (h2 : (r.length : Int) ≤ y) : (r.length : Int) + el (el s (x - (r.length : Int))) (y - (r.length : Int)) = uniV r s x y := by unfold uniV; rw [if_neg (by omega), if_pos ⟨h1, h2⟩]
theorem uniV_c {r s : List (List Int)} {x y : Int} (h1 : ¬ (x < (r.length : Int) ∧ y < (r.length : Int))) (h2 : ¬ ((r.length : Int) ≤ x ∧ (r.length : Int) ≤ y)) : y = uniV r s x y := by unfold uniV; rw [if_neg h1, if_neg h2]
theorem uni1 {a b : List (List Int)} (h : (isRk a && isRk b) = false) : [] = UniT a b ∧ 1 = UniE a b := by
  have e : UniE a b = 1 := by unfold UniE; rw [h]; rfl
  exact ⟨by unfold UniT; rw [e]; rfl, e.symm⟩
theorem uni3 {a b : List (List Int)} (h : (isRk a && isRk b) = true) (h2 : (12 : Int) < (a.length : Int) + (b.length : Int)) : [] = UniT a b ∧ 3 = UniE a b := by
  have e : UniE a b = 3 := by unfold UniE; rw [h, if_pos h2]; rfl
  exact ⟨by unfold UniT; rw [e]; rfl, e.symm⟩
theorem uni0 {a b : List (List Int)} (h : (isRk a && isRk b) = true) (h2 : ¬ (12 : Int) < (a.length : Int) + (b.length : Int)) : uniT a b = UniT a b ∧ 0 = UniE a b := by
  have e : UniE a b = 0 := by unfold UniE; rw [h, if_neg h2]; rfl
  exact ⟨by unfold UniT; rw [e]; rfl, e.symm⟩
theorem crm1 {r s : List (List Int)} (h : (isRk r && isRk s) = false) : 0 = CrmV r s ∧ 1 = CrmE r s := by
  have e : CrmE r s = 1 := by unfold CrmE; rw [h]; rfl
  exact ⟨by unfold CrmV; rw [e]; rfl, e.symm⟩
theorem crm3 {r s : List (List Int)} (h : (isRk r && isRk s) = true) (h2 : (1000000 : Int) < (s.length : Int) ^ r.length) : 0 = CrmV r s ∧ 3 = CrmE r s := by
  have e : CrmE r s = 3 := by unfold CrmE; rw [h, if_pos h2]; rfl
  exact ⟨by unfold CrmV; rw [e]; rfl, e.symm⟩
theorem crm0 {r s : List (List Int)} (h : (isRk r && isRk s) = true) (h2 : ¬ (1000000 : Int) < (s.length : Int) ^ r.length) : cntI r s [] = CrmV r s ∧ 0 = CrmE r s := by
  have e : CrmE r s = 0 := by unfold CrmE; rw [h, if_neg h2]; rfl
  exact ⟨by unfold CrmV; rw [e]; rfl, e.symm⟩
theorem crm_step {m v w n : Int} (hm : 1 ≤ m ∧ m ≤ 12) (hv : v = m ^ w.toNat) (w0 : 0 ≤ w) (hw : w < n) (h : v ≤ 1000000) : InI (v * m) ∧ v * m = m ^ (w + 1).toNat ∧ (1000000 < v * m → 1000000 < m ^ n.toNat) := by
  have p0 : 0 ≤ v := by rw [hv]; exact Int.pow_nonneg (by omega)
  have e : v * m = m ^ (w + 1).toNat := by rw [hv, show (w + 1).toNat = w.toNat + 1 by omega, Int.pow_succ]
  have b := mulB (a := v) (i := m) (A := 1000000) (B := 12) ⟨p0, h, by omega, by omega⟩
  refine ⟨⟨by omega, by omega⟩, e, fun h1 => ?_⟩
  have := pow_mono hm.1 (w + 1).toNat n.toNat (by omega)
  omega
end Go.Proofs.Ytbodlnpmplcaoaa
