/- Plain definitions, the seventh part: conjugations, solutions, orders, quotients, mirrors; no condition. -/
import Derived.Test.YtbodlnpmplcaoaaPf
namespace Go.Proofs.Ytbodlnpmplcaoaa
theorem el_tab {n : Int} {f : Int → Int → Int} {x y : Int} (hx : 0 ≤ x ∧ x < n) (hy : 0 ≤ y ∧ y < n) : el (el (tab n f) x) y = f x y := by
  unfold tab; rw [el_ran hx, el_ran hy]
theorem len_tab {n : Int} {f : Int → Int → Int} (hn : 0 ≤ n) : ((tab n f).length : Int) = n := by simp; omega
theorem tab_rowlen {n : Int} {f : Int → Int → Int} {x : Int} (hx : 0 ≤ x ∧ x < n) : ((el (tab n f) x).length : Int) = n := by
  unfold tab; rw [el_ran hx]; simp; omega
theorem isTab_tab {n : Int} {f : Int → Int → Int} (hn : 1 ≤ n ∧ n ≤ 12) (h : ∀ x y, 0 ≤ x → x < n → 0 ≤ y → y < n → 0 ≤ f x y ∧ f x y < n) : isTab (tab n f) = true := by
  have hl : ((tab n f).length : Int) = n := len_tab (by omega)
  refine isTab_mk (by omega) fun i i0 i1 => ⟨by rw [tab_rowlen ⟨i0, by omega⟩, hl], fun j j0 j1 => ?_⟩
  rw [el_tab ⟨i0, by omega⟩ ⟨j0, by omega⟩, hl]
  exact h i j i0 (by omega) j0 (by omega)
theorem isTab_tab_iff {n : Int} {f : Int → Int → Int} (hn : 1 ≤ n ∧ n ≤ 12) : isTab (tab n f) = true ↔ ∀ x y, 0 ≤ x → x < n → 0 ≤ y → y < n → 0 ≤ f x y ∧ f x y < n := by
  refine ⟨fun h x y x0 x1 y0 y1 => ?_, isTab_tab hn⟩
  have hl : ((tab n f).length : Int) = n := len_tab (by omega)
  have := (isTab_row h (i := x) ⟨x0, by omega⟩).2 y y0 (by omega)
  rw [el_tab ⟨x0, x1⟩ ⟨y0, y1⟩, hl] at this
  exact this
theorem tab_el {t : List (List Int)} (h : isTab t = true) : t = tab (t.length : Int) fun x y => el (el t x) y := by
  refine eq_ran (by omega) fun i i0 i1 => ?_
  have := rk_len h ⟨i0, i1⟩
  exact eq_ran (by omega) fun j _ _ => rfl
theorem small2_tab' {n : Int} {f : Int → Int → Int} (h : n ≤ 1000) : small2 (tab n f) := ⟨by show ((tab n f).length : Int) ≤ 1000000000; simp; omega, fun r hr => by
  obtain ⟨i, hi, rfl⟩ := mem_el hr
  have hl : ((tab n f).length : Int) ≤ n ∨ n < 0 := by simp; omega
  simp only [length_tab] at hi
  have := tab_rowlen (n := n) (f := f) (x := i) ⟨hi.1, by omega⟩
  show ((el (tab n f) i).length : Int) ≤ 1000000000; omega⟩
/-- The index of a list among lists. -/
def idxL (lists : List (List Int)) (list : List Int) : Int := idxF lists (fun own => decide (own = list))
def conjI (x y : List Int) : List Int := ((backI x).map (el y)).map (el x)
def cjD (x y : List Int) : Prop := small x ∧ isPerm x = true ∧ x.length = y.length ∧ isPerm y = true
def GoodL (list : List (List Int)) : Prop := 1 ≤ (list.length : Int) ∧ ∀ i, 0 ≤ i → i < (list.length : Int) → permB (el list i) = true ∧ ((el list i).length : Int) = ((el list 0).length : Int) ∧ ∀ j, 0 ≤ j → j < i → el list j ≠ el list i
def cjV (list : List (List Int)) (x y : Int) : Int := idxL list (conjI (el list x) (el list y))
def cjT (list : List (List Int)) : List (List Int) := tab (list.length : Int) (cjV list)
noncomputable def CjqE (list : List (List Int)) : Int := if dec (GoodL list) then (if (12 : Int) < (list.length : Int) then 3 else if isTab (cjT list) then 0 else 5) else 1
noncomputable def CjqT (list : List (List Int)) : List (List Int) := if CjqE list = 0 then cjT list else []
def rsoB (r : List (List Int)) : List (List Int) := tab (r.length : Int) fun x _ => x
def RsoA (r : List (List Int)) : List (List Int) := if isRk r then r else []
def RsoB (r : List (List Int)) : List (List Int) := if isRk r then rsoB r else []
/-- A permutation, done one time more than told. -/
def powN (p : List Int) : Nat → List Int
  | 0 => p
  | k + 1 => (powN p k).map (el p)
def OrdP (p : List Int) (k : Int) : Prop := 1 ≤ k ∧ powN p (k - 1).toNat = unitI (p.length : Int) ∧ ∀ j, 1 ≤ j → j < k → powN p (j - 1).toNat ≠ unitI (p.length : Int)
noncomputable def ordI (p : List Int) : Int := the (OrdP p)
theorem ordP_uniq {p : List Int} (x y : Int) (h1 : OrdP p x) (h2 : OrdP p y) : x = y := by
  rcases Int.lt_trichotomy x y with h | h | h
  · exact absurd h1.2.1 (h2.2.2 x h1.1 h)
  · exact h
  · exact absurd h2.2.1 (h1.2.2 y h2.1 h)
noncomputable def PorV (p : List Int) : Int := if permB p then ordI p else 0
def PorE (p : List Int) : Int := if permB p then 0 else 1
noncomputable def RowT (c : List (List Int)) : List Int := if isCyc c then c.map ordI else []
theorem iterN_succ (f : Int → Int) : ∀ (n : Nat) (x : Int), iterN f (n + 1) x = f (iterN f n x)
  | 0, x => rfl
  | n + 1, x => by rw [iterN, iterN_succ f n (f x), iterN]
theorem iterN_add (f : Int → Int) : ∀ (m n : Nat) (x : Int), iterN f (m + n) x = iterN f m (iterN f n x)
  | 0, n, x => by rw [Nat.zero_add]; rfl
  | m + 1, n, x => by rw [show m + 1 + n = (m + n) + 1 by omega, iterN_succ, iterN_add f m n x, iterN_succ]
theorem iter_in {p : List Int} (hp : isPerm p = true) {x : Int} (hx : 0 ≤ x ∧ x < (p.length : Int)) : ∀ n, 0 ≤ iterN (el p) n x ∧ iterN (el p) n x < (p.length : Int)
  | 0 => hx
  | n + 1 => by rw [iterN_succ]; exact isPerm_el hp (iter_in hp hx n)
theorem iter_inj {p : List Int} (hp : isPerm p = true) {x y : Int} (hx : 0 ≤ x ∧ x < (p.length : Int)) (hy : 0 ≤ y ∧ y < (p.length : Int)) : ∀ n, iterN (el p) n x = iterN (el p) n y → x = y
  | 0, h => h
  | n + 1, h => by
    rw [iterN_succ, iterN_succ] at h
    exact iter_inj hp hx hy n (isPerm_inj hp (iter_in hp hx n) (iter_in hp hy n) h)
/-- Some number of times, at most as many as there are elements, leads an element to itself. -/
theorem iter_back {p : List Int} (hp : isPerm p = true) {x : Int} (hx : 0 ≤ x ∧ x < (p.length : Int)) : ∃ c : Nat, 1 ≤ c ∧ c ≤ p.length ∧ iterN (el p) c x = x := by
  by_cases h : (ran ((p.length : Int) + 1) fun i => iterN (el p) i.toNat x).Nodup
  · have hl := nodup_len_ran (n := (p.length : Int)) (by omega) h fun y hy => by
      obtain ⟨i, hi, rfl⟩ := mem_el hy
      simp at hi
      rw [el_ran ⟨hi.1, by omega⟩]; exact iter_in hp hx _
    simp at hl; omega
  · rw [nodup_el] at h
    simp only [Classical.not_forall] at h
    obtain ⟨i, j, h0, h1, h2, h3⟩ := h
    simp at h2
    have e := Classical.not_not.1 h3
    rw [el_ran ⟨h0, by omega⟩, el_ran ⟨by omega, by omega⟩] at e
    rw [show j.toNat = i.toNat + (j - i).toNat by omega, iterN_add] at e
    exact ⟨(j - i).toNat, by omega, by omega, (iter_inj hp hx (iter_in hp hx _) _ e).symm⟩
theorem iter_mul {f : Int → Int} {c : Nat} {x : Int} (h : iterN f c x = x) : ∀ m, iterN f (c * m) x = x
  | 0 => rfl
  | m + 1 => by rw [Nat.mul_succ, iterN_add, h, iter_mul h m]
theorem iter_27720 {p : List Int} (hp : isPerm p = true) (hl : p.length ≤ 12) {x : Int} (hx : 0 ≤ x ∧ x < (p.length : Int)) : iterN (el p) 27720 x = x := by
  obtain ⟨c, c1, c2, h⟩ := iter_back hp hx
  have hd : ∀ c, c < 13 → 1 ≤ c → 27720 = c * (27720 / c) := by decide
  rw [hd c (by omega) c1]
  exact iter_mul h _
theorem powN_len (p : List Int) : ∀ k, (powN p k).length = p.length
  | 0 => rfl
  | k + 1 => by simp [powN, powN_len p k]
theorem powN_el {p : List Int} {x : Int} (hx : 0 ≤ x ∧ x < (p.length : Int)) : ∀ k, el (powN p k) x = iterN (el p) (k + 1) x
  | 0 => rfl
  | k + 1 => by rw [powN, el_map ⟨hx.1, by rw [powN_len]; exact hx.2⟩, powN_el hx k, iterN_succ (el p) (k + 1)]
theorem powN_in {p : List Int} (hp : isPerm p = true) {k : Nat} : ∀ x ∈ powN p k, 0 ≤ x ∧ x < (p.length : Int) := fun x hx => by
  obtain ⟨i, hi, rfl⟩ := mem_el hx
  rw [powN_len] at hi
  rw [powN_el hi]; exact iter_in hp hi _
theorem powN_27719 {p : List Int} (hp : isPerm p = true) (hl : p.length ≤ 12) : powN p 27719 = unitI (p.length : Int) :=
  ext_el (by rw [powN_len]; simp) fun i i0 i1 => by
    rw [powN_len] at i1
    rw [powN_el ⟨i0, i1⟩, el_unitI ⟨i0, i1⟩]; exact iter_27720 hp hl ⟨i0, i1⟩
def resV (r : List (List Int)) (list : List Int) (x y : Int) : Int := idxI list (el (el r (el list x)) (el list y))
noncomputable def ResE (r : List (List Int)) (list : List Int) : Int := if isRk r then (if (list.all fun z_ => decide (0 ≤ z_) && decide (z_ ≤ (r.length : Int) - 1)) && incB list then (if decide (1 ≤ (list.length : Int)) && dec (SubP r list) then 0 else 5) else 2) else 1
noncomputable def ResT (r : List (List Int)) (list : List Int) : List (List Int) := if ResE r list = 0 then tab (list.length : Int) (resV r list) else []
def quoV (t : List (List Int)) (c : List Int) (x y : Int) : Int := el c (el (el t (el (firI c) x)) (el (firI c) y))
def quoT (t : List (List Int)) (c : List Int) : List (List Int) := tab (canN 0 c) (quoV t c)
noncomputable def QuoE (r : List (List Int)) (c : List Int) : Int := if isRk r && partB (r.length : Int) c then (if dec (CongP r c) then 0 else 5) else 1
noncomputable def QuoT (r : List (List Int)) (c : List Int) : List (List Int) := if QuoE r c = 0 then quoT r c else []
def cyA (c : List (List Int)) (x y : Int) : Int := idxI (el c x) y
def cyB (c : List (List Int)) (x y : Int) : Int := el (el c (cyA c x y)) x
def cyAT (c : List (List Int)) : List (List Int) := tab (c.length : Int) (cyA c)
def cyBT (c : List (List Int)) : List (List Int) := tab (c.length : Int) (cyB c)
def SocA (c : List (List Int)) : List (List Int) := if isCyc c then cyAT c else []
def SocB (c : List (List Int)) : List (List Int) := if isCyc c then cyBT c else []
def colI (t : List (List Int)) (y : Int) : List Int := ran (t.length : Int) fun x => el (el t x) y
def trnT (t : List (List Int)) : List (List Int) := tab (t.length : Int) fun x y => el (el t y) x
def pmB (a b : List (List Int)) : Bool := isTab a && isTab b && decide ((a.length : Int) = (b.length : Int))
def MirE (a b : List (List Int)) : Int := if pmB a b then 0 else 1
def MirA (a b : List (List Int)) : List (List Int) := if pmB a b then trnT b else []
def MirB (a b : List (List Int)) : List (List Int) := if pmB a b then trnT a else []
def DcyT (c : List (List Int)) : List (List Int) := if isCyc c then (trnT (cyBT c)).map backI else []
def heSo (k : Int) (a b : List (List Int)) : Int := if heII k a < 0 then -1 else if heII (heII k a) b < 0 then -1 else heII (heII k a) b
theorem isTab_trnT {t : List (List Int)} (h : isTab t = true) : isTab (trnT t) = true := isTab_tab (isTab_len h) fun _ _ x0 x1 y0 y1 => rk_el h ⟨y0, y1⟩ ⟨x0, x1⟩
theorem len_trnT {t : List (List Int)} : (trnT t).length = t.length := by simp [trnT]
theorem cy_in {c : List (List Int)} (ht : isTab c = true) (hp : c.all isPerm = true) {x y : Int} (hx : 0 ≤ x ∧ x < (c.length : Int)) (hy : 0 ≤ y ∧ y < (c.length : Int)) :
    ((0 ≤ cyA c x y ∧ cyA c x y < (c.length : Int)) ∧ el (el c x) (cyA c x y) = y) ∧ 0 ≤ cyB c x y ∧ cyB c x y < (c.length : Int) := by
  have l := rk_len ht hx
  have m := isPerm_all (all_perm_el hp hx) (x := y) ⟨hy.1, by omega⟩
  obtain ⟨h1, h2⟩ := idxI_spec m
  have h1' : 0 ≤ cyA c x y ∧ cyA c x y < (c.length : Int) := ⟨h1.1, by unfold cyA; omega⟩
  exact ⟨⟨h1', h2⟩, rk_el ht h1' hx⟩
theorem isTab_cyAT {c : List (List Int)} (ht : isTab c = true) (hp : c.all isPerm = true) : isTab (cyAT c) = true := isTab_tab (isTab_len ht) fun _ _ x0 x1 y0 y1 => (cy_in ht hp ⟨x0, x1⟩ ⟨y0, y1⟩).1.1
theorem isTab_cyBT {c : List (List Int)} (ht : isTab c = true) (hp : c.all isPerm = true) : isTab (cyBT c) = true := isTab_tab (isTab_len ht) fun _ _ x0 x1 y0 y1 => (cy_in ht hp ⟨x0, x1⟩ ⟨y0, y1⟩).2
/-- The solution of a cycle set is nondegenerate on the other side, too. -/
theorem cy_nondeg {c : List (List Int)} (h : isCyc c = true) : (trnT (cyBT c)).all isPerm = true := by
  have ht := isCyc_tab h
  have hp := isCyc_perm h
  have hd := isCyc_diag h
  have hn := isTab_len ht
  have hlB : ((cyBT c).length : Int) = (c.length : Int) := len_tab (by omega)
  have hlT : ((trnT (cyBT c)).length : Int) = (c.length : Int) := by rw [len_trnT]; exact hlB
  have hval : ∀ {y x : Int}, (0 ≤ y ∧ y < (c.length : Int)) → (0 ≤ x ∧ x < (c.length : Int)) → el (el (trnT (cyBT c)) y) x = cyB c x y := fun {y x} hy hx => by
    unfold trnT
    rw [el_tab ⟨hy.1, by omega⟩ ⟨hx.1, by omega⟩]
    exact el_tab hx hy
  refine all_el.2 fun y y0 y1 => ?_
  have hy : 0 ≤ y ∧ y < (c.length : Int) := ⟨y0, by omega⟩
  have hrl : ((el (trnT (cyBT c)) y).length : Int) = (c.length : Int) := by
    unfold trnT; rw [tab_rowlen ⟨y0, by omega⟩]; exact hlB
  refine perm_of_inj (fun x x0 x1 => ?_) fun x z x0 x1 z0 z1 e => ?_
  · rw [hval hy ⟨x0, by omega⟩, hrl]; exact (cy_in ht hp ⟨x0, by omega⟩ hy).2
  · have hx : 0 ≤ x ∧ x < (c.length : Int) := ⟨x0, by omega⟩
    have hz : 0 ≤ z ∧ z < (c.length : Int) := ⟨z0, by omega⟩
    rw [hval hy hx, hval hy hz] at e
    obtain ⟨⟨u1, u2⟩, b1⟩ := cy_in ht hp hx hy
    obtain ⟨⟨w1, w2⟩, b2⟩ := cy_in ht hp hz hy
    have l1 := isCyc_law h hx u1 u1
    have l2 := isCyc_law h hz w1 w1
    rw [u2] at l1
    rw [w2] at l2
    have e1 : el (el c (cyA c x y)) x = el (el c (cyA c z y)) z := e
    rw [e1] at l1
    have r1 := rk_el ht u1 u1
    have r2 := rk_el ht w1 w1
    have e2 := rk_inj ht hp (show 0 ≤ el (el c (cyA c z y)) z ∧ el (el c (cyA c z y)) z < (c.length : Int) from b2) r1 r2 (l1.symm.trans l2)
    have e3 : cyA c x y = cyA c z y := isPerm_inj hd ⟨u1.1, by simp; omega⟩ ⟨w1.1, by simp; omega⟩ (by rw [el_diag u1, el_diag w1]; exact e2)
    rw [e3] at e1
    exact rk_inj ht hp w1 hx hz e1
end Go.Proofs.Ytbodlnpmplcaoaa
