/- Contracts of functions that the law FnExactCycleSetText reaches: conditions, plain proofs, walks; no condition. -/
import Derived.Test.YtllimiejaijbkaaKECycleSetTextb
import Derived.Test.YtllimiejaijbkaaPc
namespace Go.Proofs.Ytllimiejaijbkaa


theorem maxI_step (l : List Int) (a : Int) : ∀ (i : Nat), i < l.length → (l.take (i + 1)).foldl (fun a b => if a < b then b else a) a = (if (l.take i).foldl (fun a b => if a < b then b else a) a < el l i then el l i else (l.take i).foldl (fun a b => if a < b then b else a) a) := fun i hi => by
  rw [List.take_succ_eq_append_getElem hi, List.foldl_append]
  have : el l i = l[i] := by simp [el, List.getD_eq_getElem?_getD, List.getElem?_eq_getElem hi]
  rw [this]; rfl
theorem isEmpty_iff_nil {l : List Int} : l.isEmpty = decide ((l.length : Int) = 0) := by cases l <;> simp; omega
theorem small_diag {c : List (List Int)} (h : isTab c = true) : small (diag c) := by have := isTab_len h; show ((diag c).length : Int) ≤ 1000000000; simp; omega
theorem permB_diag {c : List (List Int)} (h : isTab c = true) : permB (diag c) = isPerm (diag c) := by
  have := isTab_len h
  unfold permB
  have e1 : decide (1 ≤ ((diag c).length : Int)) = true := decide_eq_true (by simp; omega)
  have e2 : decide (((diag c).length : Int) ≤ 12) = true := decide_eq_true (by simp; omega)
  rw [e1, e2]; rfl
theorem tab_rows {r : List (List Int)} (h : isTab r = true) : ∀ q ∈ r, small q := (isTab_small h).2
theorem dual_loop {r : List (List Int)} (_ht : isTab r = true) (_hr : r.all isPerm = true) {o : List (List Int)} {i : Int} (il : o.length = i.toNat) (hi : (r.length : Int) ≤ i ∧ i ≤ (r.length : Int)) (hI : Upto i fun x => el o x = backI (el r x)) : o = r.map backI :=
  ext_el (by simp; omega) fun j a b => by rw [el_map ⟨a, by omega⟩]; exact hI j a (by omega)
theorem inv_back {row : List Int} (h : isPerm row = true) : (row = backI row) ↔ invB row = true := by
  rw [invB_iff]
  constructor
  · intro e i a b
    have := el_backI h (i := i) ⟨a, b⟩
    rw [← e] at this; exact this
  · intro hI; exact backI_uniq h rfl hI
theorem small2_tab {n : Int} {f : Int → Int → Int} (h : n ≤ 1000) : small2 (tab n f) := ⟨by show ((tab n f).length : Int) ≤ 1000000000; simp [tab]; omega, fun r hr => by
  unfold tab at hr
  unfold ran at hr
  obtain ⟨k, hk, rfl⟩ := List.mem_map.1 hr
  simp; omega⟩
theorem inN_t {n x : Int} (h : (decide (0 ≤ x) && decide (x ≤ n - 1)) = true) : inN n x = true := h
theorem aff2 {n a b c : Int} (h : (inN 12 (n - 1) && inN n a && inN n b && inN n c) = false) : [] = AffT n a b c ∧ 2 = AffE n a b c := by
  have e : AffE n a b c = 2 := by unfold AffE; rw [h]; rfl
  exact ⟨by unfold AffT; rw [e]; rfl, e.symm⟩
theorem aff5 {n a b c : Int} (h : (inN 12 (n - 1) && inN n a && inN n b && inN n c) = true) (hc : isCyc (affT n a b c) = false) : [] = AffT n a b c ∧ 5 = AffE n a b c := by
  have e : AffE n a b c = 5 := by unfold AffE; rw [h, hc]; rfl
  exact ⟨by unfold AffT; rw [e]; rfl, e.symm⟩
theorem aff0 {n a b c : Int} (h : (inN 12 (n - 1) && inN n a && inN n b && inN n c) = true) (hc : isCyc (affT n a b c) = true) : affT n a b c = AffT n a b c ∧ 0 = AffE n a b c := by
  have e : AffE n a b c = 0 := by unfold AffE; rw [h, hc]; rfl
  exact ⟨by unfold AffT; rw [e]; rfl, e.symm⟩
theorem inN_12 {n : Int} : inN 12 (n - 1) = (decide (1 ≤ n) && decide (n ≤ 12)) := by
  unfold inN
  rw [Bool.eq_iff_iff]; simp; omega
theorem rkf1 {r : List (List Int)} (h : isTab r = false) : [] = RkfT r ∧ 1 = RkfE r := by
  have e : RkfE r = 1 := by unfold RkfE; rw [h]; rfl
  exact ⟨by unfold RkfT; rw [e]; rfl, e.symm⟩
theorem rkf5 {r : List (List Int)} (h : isTab r = true) (h2 : r.all isPerm = false) : [] = RkfT r ∧ 5 = RkfE r := by
  have e : RkfE r = 5 := by unfold RkfE; rw [h, h2]; rfl
  exact ⟨by unfold RkfT; rw [e]; rfl, e.symm⟩
theorem rkf4 {r : List (List Int)} (h : isTab r = true) (h2 : r.all isPerm = true) (h3 : rackF r = []) : [] = RkfT r ∧ 4 = RkfE r := by
  have e : RkfE r = 4 := by unfold RkfE; rw [h, h2, if_pos h3]; rfl
  exact ⟨by unfold RkfT; rw [e]; rfl, e.symm⟩
theorem rkf0 {r : List (List Int)} (h : isTab r = true) (h2 : r.all isPerm = true) (h3 : ¬ rackF r = []) : rackF r = RkfT r ∧ 0 = RkfE r := by
  have e : RkfE r = 0 := by unfold RkfE; rw [h, h2, if_neg h3]; rfl
  exact ⟨by unfold RkfT; rw [e]; rfl, e.symm⟩
theorem dpw1 {c : List (List Int)} {x k : Int} (h : isCyc c = false) : 0 = DpwV c x k ∧ 1 = DpwE c x k := by
  have e : DpwE c x k = 1 := by unfold DpwE; rw [h]; rfl
  exact ⟨by unfold DpwV; rw [e]; rfl, e.symm⟩
theorem dpw2 {c : List (List Int)} {x k : Int} (h : isCyc c = true) (h2 : (inN (c.length : Int) x && inN 1001 k) = false) : 0 = DpwV c x k ∧ 2 = DpwE c x k := by
  have e : DpwE c x k = 2 := by unfold DpwE; rw [h, h2]; rfl
  exact ⟨by unfold DpwV; rw [e]; rfl, e.symm⟩
theorem dpw0 {c : List (List Int)} {x k : Int} (h : isCyc c = true) (h2 : (inN (c.length : Int) x && inN 1001 k) = true) : iterN (fun x => el (el c x) x) k.toNat x = DpwV c x k ∧ 0 = DpwE c x k := by
  have e : DpwE c x k = 0 := by unfold DpwE; rw [h, h2]; rfl
  exact ⟨by unfold DpwV; rw [e]; rfl, e.symm⟩
theorem inN_1001 {k : Int} : inN 1001 k = (decide (0 ≤ k) && decide (k ≤ 1000)) := by unfold inN; rfl
theorem dso1 {c : List (List Int)} {x z : Int} (h : isCyc c = false) : 0 = DsoV c x z ∧ 1 = DsoE c x z := by
  have e : DsoE c x z = 1 := by unfold DsoE; rw [h]; rfl
  exact ⟨by unfold DsoV; rw [e]; rfl, e.symm⟩
theorem dso2 {c : List (List Int)} {x z : Int} (h : isCyc c = true) (h2 : (inN (c.length : Int) x && inN (c.length : Int) z) = false) : 0 = DsoV c x z ∧ 2 = DsoE c x z := by
  have e : DsoE c x z = 2 := by unfold DsoE; rw [h, h2]; rfl
  exact ⟨by unfold DsoV; rw [e]; rfl, e.symm⟩
theorem dso0 {c : List (List Int)} {x z : Int} (h : isCyc c = true) (h2 : (inN (c.length : Int) x && inN (c.length : Int) z) = true) : idxI (el c x) z = DsoV c x z ∧ 0 = DsoE c x z := by
  have e : DsoE c x z = 0 := by unfold DsoE; rw [h, h2]; rfl
  exact ⟨by unfold DsoV; rw [e]; rfl, e.symm⟩
end Go.Proofs.Ytllimiejaijbkaa
