/- Plain definitions, the seventh part: conjugations, solutions, orders, quotients, mirrors; no condition. -/
import Derived.Test.YtbodlnpmplcaoaaPf
namespace Go.Proofs.Ytbodlnpmplcaoaa
theorem el_tab {n : Int} {f : Int → Int → Int} {x y : Int} (hx : 0 ≤ x ∧ x < n) (hy : 0 ≤ y ∧ y < n) : el (el (tab n f) x) y = f x y := by
  unfold tab; rw [el_ran hx, el_ran hy]
theorem len_tab {n : Int} {f : Int → Int → Int} (hn : 0 ≤ n) : ((tab n f).length : Int) = n := by simp; omega
theorem tab_rowlen {n : Int} {f : Int → Int → Int} {x : Int} (hx : 0 ≤ x ∧ x < n) : ((el (tab n f) x).length : Int) = n := by
  unfold tab; rw [el_ran hx]; simp; omega
theorem isTab_tab {n : Int} {f : Int → Int → Int} (hn : 1 ≤ n ∧ n ≤ 12) (h : ∀ x y, 0 ≤ x → x < n → 0 ≤ y → y < n → 0 ≤ f x y ∧ f x y < n) : isTab (tab n f) = true := by
  have hl : ((tab n f).length : Int) = n := len_tab (by omega)
  refine isTab_mk (by omega) fun i i0 i1 => ⟨by rw [tab_rowlen ⟨i0, by omega⟩, hl], fun j j0 j1 => ?_⟩
  rw [el_tab ⟨i0, by omega⟩ ⟨j0, by omega⟩, hl]
  exact h i j i0 (by omega) j0 (by omega)
def powN (p : List Int) : Nat → List Int
  | 0 => p
  | k + 1 => (powN p k).map (el p)
def OrdP (p : List Int) (k : Int) : Prop := 1 ≤ k ∧ powN p (k - 1).toNat = unitI (p.length : Int) ∧ ∀ j, 1 ≤ j → j < k → powN p (j - 1).toNat ≠ unitI (p.length : Int)
noncomputable def ordI (p : List Int) : Int := the (OrdP p)
theorem ordP_uniq {p : List Int} (x y : Int) (h1 : OrdP p x) (h2 : OrdP p y) : x = y := by
  rcases Int.lt_trichotomy x y with h | h | h
  · exact absurd h1.2.1 (h2.2.2 x h1.1 h)
  · exact h
  · exact absurd h2.2.1 (h1.2.2 y h2.1 h)
noncomputable def PorV (p : List Int) : Int := if permB p then ordI p else 0
def PorE (p : List Int) : Int := if permB p then 0 else 1
noncomputable def RowT (c : List (List Int)) : List Int := if isCyc c then c.map ordI else []
theorem iterN_succ (f : Int → Int) : ∀ (n : Nat) (x : Int), iterN f (n + 1) x = f (iterN f n x)
  | 0, x => rfl
  | n + 1, x => by rw [iterN, iterN_succ f n (f x), iterN]
theorem iterN_add (f : Int → Int) : ∀ (m n : Nat) (x : Int), iterN f (m + n) x = iterN f m (iterN f n x)
  | 0, n, x => by rw [Nat.zero_add]; rfl
  | m + 1, n, x => by rw [show m + 1 + n = (m + n) + 1 by omega, iterN_succ, iterN_add f m n x, iterN_succ]
theorem iter_in {p : List Int} (hp : isPerm p = true) {x : Int} (hx : 0 ≤ x ∧ x < (p.length : Int)) : ∀ n, 0 ≤ iterN (el p) n x ∧ iterN (el p) n x < (p.length : Int)
  | 0 => hx
  | n + 1 => by rw [iterN_succ]; exact isPerm_el hp (iter_in hp hx n)
theorem iter_inj {p : List Int} (hp : isPerm p = true) {x y : Int} (hx : 0 ≤ x ∧ x < (p.length : Int)) (hy : 0 ≤ y ∧ y < (p.length : Int)) : ∀ n, iterN (el p) n x = iterN (el p) n y → x = y
  | 0, h => h
  | n + 1, h => by
    rw [iterN_succ, iterN_succ] at h
    exact iter_inj hp hx hy n (isPerm_inj hp (iter_in hp hx n) (iter_in hp hy n) h)
theorem iter_back {p : List Int} (hp : isPerm p = true) {x : Int} (hx : 0 ≤ x ∧ x < (p.length : Int)) : ∃ c : Nat, 1 ≤ c ∧ c ≤ p.length ∧ iterN (el p) c x = x := by
  by_cases h : (ran ((p.length : Int) + 1) fun i => iterN (el p) i.toNat x).Nodup
  · have hl := nodup_len_ran (n := (p.length : Int)) (by omega) h fun y hy => by
      obtain ⟨i, hi, rfl⟩ := mem_el hy
      simp at hi
      rw [el_ran ⟨hi.1, by omega⟩]; exact iter_in hp hx _
    simp at hl; omega
  · rw [nodup_el] at h
    simp only [Classical.not_forall] at h
    obtain ⟨i, j, h0, h1, h2, h3⟩ := h
    simp at h2
    have e := Classical.not_not.1 h3
    rw [el_ran ⟨h0, by omega⟩, el_ran ⟨by omega, by omega⟩] at e
    rw [show j.toNat = i.toNat + (j - i).toNat by omega, iterN_add] at e
    exact ⟨(j - i).toNat, by omega, by omega, (iter_inj hp hx (iter_in hp hx _) _ e).symm⟩
theorem iter_mul {f : Int → Int} {c : Nat} {x : Int} (h : iterN f c x = x) : ∀ m, iterN f (c * m) x = x
  | 0 => rfl
  | m + 1 => by rw [Nat.mul_succ, iterN_add, h, iter_mul h m]
theorem iter_27720 {p : List Int} (hp : isPerm p = true) (hl : p.length ≤ 12) {x : Int} (hx : 0 ≤ x ∧ x < (p.length : Int)) : iterN (el p) 27720 x = x := by
  obtain ⟨c, c1, c2, h⟩ := iter_back hp hx
  have hd : ∀ c, c < 13 → 1 ≤ c → 27720 = c * (27720 / c) := by decide
  rw [hd c (by omega) c1]
  exact iter_mul h _
theorem powN_len (p : List Int) : ∀ k, (powN p k).length = p.length
  | 0 => rfl
  | k + 1 => by simp [powN, powN_len p k]
theorem powN_el {p : List Int} {x : Int} (hx : 0 ≤ x ∧ x < (p.length : Int)) : ∀ k, el (powN p k) x = iterN (el p) (k + 1) x
  | 0 => rfl
  | k + 1 => by rw [powN, el_map ⟨hx.1, by rw [powN_len]; exact hx.2⟩, powN_el hx k, iterN_succ (el p) (k + 1)]
theorem powN_in {p : List Int} (hp : isPerm p = true) {k : Nat} : ∀ x ∈ powN p k, 0 ≤ x ∧ x < (p.length : Int) := fun x hx => by
  obtain ⟨i, hi, rfl⟩ := mem_el hx
  rw [powN_len] at hi
  rw [powN_el hi]; exact iter_in hp hi _
theorem powN_27719 {p : List Int} (hp : isPerm p = true) (hl : p.length ≤ 12) : powN p 27719 = unitI (p.length : Int) :=
  ext_el (by rw [powN_len]; simp) fun i i0 i1 => by
    rw [powN_len] at i1
    rw [powN_el ⟨i0, i1⟩, el_unitI ⟨i0, i1⟩]; exact iter_27720 hp hl ⟨i0, i1⟩
def colI (t : List (List Int)) (y : Int) : List Int := ran (t.length : Int) fun x => el (el t x) y
def trnT (t : List (List Int)) : List (List Int) := tab (t.length : Int) fun x y => el (el t y) x
def pmB (a b : List (List Int)) : Bool := isTab a && isTab b && decide ((a.length : Int) = (b.length : Int))
theorem isTab_trnT {t : List (List Int)} (h : isTab t = true) : isTab (trnT t) = true := isTab_tab (isTab_len h) fun _ _ x0 x1 y0 y1 => rk_el h ⟨y0, y1⟩ ⟨x0, x1⟩
end Go.Proofs.Ytbodlnpmplcaoaa
